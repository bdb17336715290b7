/- My own texts, joined. -/
import Derived.Conc.MuLone
import Derived.KernelRfl
import Derived.Laws.BytesArg
import Derived.Laws.IdiomStrings
import Derived.Laws.Strings
import Derived.Lib.AppendZerosOnto
import Derived.Lib.SlBytesConst
import Derived.Maps.RangeRun
import Derived.Shelf.Slices.In.SortNone
import Derived.Shelf.Sort.Plain
import Derived.Test.YtkaikaodhegmhaaGreatProg
import Derived.Test.YtkaikaodhegmhaaGreatSS6
namespace Go.Proofs.YtkaikaodhegmhaaGreat.E
open Go Go.Proofs
set_option linter.unusedVariables false
set_option linter.unusedSimpArgs false
theorem c_ixInt {xa:Option Addr} {xn:Nat} (xc:Nat) {l:List Int} {τx:Nat} (b:Int) {s:TH} (hx:Sl s xa (ivs l) τx) (hn:l.length=xn) (hb:xn<=140737488355328):TRet Tryz.prog 241 #[.slice xa xn xc,.int .i64 b] s fun v s'=>v=.int .i64 (ixf (fun x:Int=>x==b) l)/\Ch [] s s':=by
 refine F241_calls _ _ _ _  ?_
 unfold F241
 refine ⟨fun vs H'=>∃s':TH,s'.h=H'/\∃i,vs=[.int .i64 i]/\ChL [] [] s s'/\(∃k:Nat,i=k/\k<=xn/\∀j x,j<k->l[j]? =some x->(x==b)=false),fun vs H'=>match vs with|[.int .i64 i]=>((xn:Int) - i).toNat|_=>0,⟨s,rfl,_,rfl,ChL.refl _ _ _,?_⟩,?_⟩
 ·exact ⟨0,rfl,by omega,fun j x h=>by omega⟩
 intro i
 iterate 12 intro _
 intro n hI
 obtain ⟨m,rfl,i_,hvs,c,k,rfl,hk,hall⟩:=hI
 cases hvs
 have o:=c.size
 refine sB_d (fun g=>?_) (fun g=>?_)
 ·have f:=hx.mv c (tagL (by simp<;>omega) (by simp))
  have hk2:k<xn:=by omega
  obtain ⟨x,hx0⟩: ∃x,l[k]? =some x:=⟨l[k],by simp [hn,hk2]⟩
  obtain ⟨a,rfl⟩:=f.ne_none (by rw [ivs_len];omega)
  refine nz_i (ask_t (by omega) ?_)
  refine ld_sl f (by rw [Int.toNat_natCast,Nat.mul_one];exact ivs_get hx0) ?_
  refine dInt_i ?_
  refine sB_eq (fun d=>?_) (fun d=>?_)
  ·refine ret_t ?_
   exact ⟨ret_i (ixf_some hx0 (by simp [d]) hall).symm,((Ch.refl [] s).chl c (by simp) (by simp<;>omega))⟩
  refine wr_t (by omega) ?_
  refine ⟨⟨m,rfl,_,rfl,((ChL.refl [] [] s).chl c (by simp) (by simp<;>omega)),?_⟩,?_⟩
  ·refine ⟨k+1,by omega,by omega,fun j y hj hy=>?_⟩
   by_cases e:j=k
   ·subst e;rw [hx0] at hy;cases hy;simp;omega
   exact hall j y (by omega) hy
  simp only [];omega
 refine ret_t ?_
 exact ⟨ret_i (ixf_none fun j y hj hy=>hall j y (by omega) hy).symm,((Ch.refl [] s).chl c (by simp) (by simp<;>omega))⟩
theorem ixf_mem {l:List Int} {b:Int}:ixf (fun x:Int=>x==b) l>=0↔b∈l:=by
 rcases ixf_cases (fun x:Int=>x==b) l with ⟨h,ha⟩|⟨k,x,h,hk,hx⟩
 ·rw [h]
  refine ⟨fun h=>by omega,fun h=>?_⟩
  have:=ha b h;simp at this
 rw [h]
 refine ⟨fun _=>?_,fun _=>by omega⟩
 have:=List.mem_of_getElem? hk
 simp at hx;subst hx;exact this
theorem c_ctInt {xa:Option Addr} {xn:Nat} (xc:Nat) {l:List Int} {τx:Nat} (b:Int) {s:TH} (hx:Sl s xa (ivs l) τx) (hn:l.length=xn) (hb:xn<=140737488355328):TRet Tryz.prog 164 #[.slice xa xn xc,.int .i64 b] s fun v s'=>v=.bool (decide (b∈l))/\Ch [] s s':=by
 refine F164_calls _ _ _ _  ?_
 unfold F164
 refine tcall (c_ixInt xc b hx hn hb) ?_
 rintro _ s2 ⟨rfl,a⟩
 have c:=a.size
 refine dInt_i ?_
 refine ret_t ?_
 exact ⟨ret_b (decide_eq_decide.2 ixf_mem),((Ch.refl [] s).ch a (by simp))⟩
theorem c_eqInt {xa:Option Addr} {xn:Nat} (xc:Nat) {l:List Int} {τx:Nat} {ya:Option Addr} {yn:Nat} (yc:Nat) {m:List Int} {τy:Nat} {s:TH} (hx:Sl s xa (ivs l) τx) (hn:l.length=xn) (hb:xn<=140737488355328) (hy:Sl s ya (ivs m) τy) (hm:m.length=yn):TRet Tryz.prog 63 #[.slice xa xn xc,.slice ya yn yc] s fun v s'=>v=.bool (decide (l=m))/\Ch [] s s':=by
 refine F63_calls _ _ _ _ _ _  ?_
 unfold F63
 refine sB_ne (fun d=>?_) (fun d=>?_)
 ·refine ret_t ?_
  exact ⟨ret_b (decide_eq_false (fun e=>d (by rw [←hn, ←hm,e]))).symm,(Ch.refl [] s)⟩
 refine ⟨fun vs H'=>∃s':TH,s'.h=H'/\∃i,vs=[.int .i64 i]/\ChL [] [] s s'/\(∃k:Nat,i=k/\k<=xn/\l.take k=m.take k),fun vs H'=>match vs with|[.int .i64 i]=>((xn:Int) - i).toNat|_=>0,⟨s,rfl,_,rfl,ChL.refl _ _ _,?_⟩,?_⟩
 ·exact ⟨0,rfl,by omega,by simp⟩
 intro i
 iterate 14 intro _
 intro o hI
 obtain ⟨n,rfl,i_,hvs,b,k,rfl,hk,hall⟩:=hI
 cases hvs
 have p:=b.size
 refine sB_d (fun j=>?_) (fun j=>?_)
 ·have f:=hx.mv b (tagL (by simp<;>omega) (by simp))
  have g:=hy.mv b (tagL (by simp<;>omega) (by simp))
  have hk2:k<xn:=by omega
  obtain ⟨x,hx0⟩: ∃x,l[k]? =some x:=⟨l[k],by simp [hn,hk2]⟩
  obtain ⟨y,hy0⟩: ∃y,m[k]? =some y:=⟨m[k]'(by omega),by simp⟩
  obtain ⟨a,rfl⟩:=f.ne_none (by rw [ivs_len];omega)
  obtain ⟨a2,rfl⟩:=g.ne_none (by rw [ivs_len];omega)
  refine nz_i (ask_t (by omega) ?_)
  refine ld_sl f (by rw [Int.toNat_natCast,Nat.mul_one];exact ivs_get hx0) ?_
  refine dInt_i (nz_i (ask_t (by omega) ?_))
  refine ld_sl g (by rw [Int.toNat_natCast,Nat.mul_one];exact ivs_get hy0) ?_
  refine dInt_i ?_
  refine sB_ne (fun c=>?_) (fun c=>?_)
  ·refine ret_t ?_
   exact ⟨ret_b (decide_eq_false (fun e=>by rw [e,hy0] at hx0;cases hx0;exact c rfl)).symm,((Ch.refl [] s).chl b (by simp) (by simp<;>omega))⟩
  refine wr_t (by omega) ?_
  refine ⟨⟨n,rfl,_,rfl,((ChL.refl [] [] s).chl b (by simp) (by simp<;>omega)),?_⟩,?_⟩
  ·refine ⟨k+1,by omega,by omega,?_⟩
   rw [List.take_add_one,List.take_add_one,hall,hx0,hy0,c]
  simp only [];omega
 refine ret_t ?_
 exact ⟨ret_b (decide_eq_true (by rw [←List.take_of_length_le (l:=l) (i:=k) (by omega),hall,List.take_of_length_le (by omega)])).symm,((Ch.refl [] s).chl b (by simp) (by simp<;>omega))⟩
-- no form: slices.Delete[[]int,int]
end Go.Proofs.YtkaikaodhegmhaaGreat.E
namespace Go.Proofs
open Go.Shelf
def Tryz.sortIA_ren :Go.Shelf.Ren:=⟨fun|189=>97|125=>193|257=>192|128=>267|129=>268|294=>258|295=>259|296=>260|297=>261|298=>262|299=>263|216=>264|300=>265|301=>266|328=>301|329=>302|330=>303|331=>304|332=>305|215=>306|343=>324|n=>n,fun|28=>33|3=>3|46=>172|0=>0|51=>90|53=>327|4=>4|183=>319|182=>318|131=>288|5=>5|9=>9|218=>343|222=>309|228=>355|229=>356|n=>n,fun|n=>n⟩
theorem Tryz.sortIA :Go.Proofs.Lays.n189 Tryz.prog Tryz.sortIA_ren:=
 {mixed:=by kernel_rfl,
  f125:=Tryz.func193.trans (congrArg some (by kernel_rfl)),
  f128:=Tryz.func267.trans (congrArg some (by kernel_rfl)),
  f129:=Tryz.func268.trans (congrArg some (by kernel_rfl)),
  f189:=Tryz.func97.trans (congrArg some (by kernel_rfl)),
  f215:=Tryz.func306.trans (congrArg some (by kernel_rfl)),
  f216:=Tryz.func264.trans (congrArg some (by kernel_rfl)),
  f257:=Tryz.func192.trans (congrArg some (by kernel_rfl)),
  f294:=Tryz.func258.trans (congrArg some (by kernel_rfl)),
  f295:=Tryz.func259.trans (congrArg some (by kernel_rfl)),
  f296:=Tryz.func260.trans (congrArg some (by kernel_rfl)),
  f297:=Tryz.func261.trans (congrArg some (by kernel_rfl)),
  f298:=Tryz.func262.trans (congrArg some (by kernel_rfl)),
  f299:=Tryz.func263.trans (congrArg some (by kernel_rfl)),
  f300:=Tryz.func265.trans (congrArg some (by kernel_rfl)),
  f301:=Tryz.func266.trans (congrArg some (by kernel_rfl)),
  f328:=Tryz.func301.trans (congrArg some (by kernel_rfl)),
  f329:=Tryz.func302.trans (congrArg some (by kernel_rfl)),
  f330:=Tryz.func303.trans (congrArg some (by kernel_rfl)),
  f331:=Tryz.func304.trans (congrArg some (by kernel_rfl)),
  f332:=Tryz.func305.trans (congrArg some (by kernel_rfl)),
  f343:=Tryz.func324.trans (congrArg some (by kernel_rfl)),
  t0:=Tryz.underlying0,
  a0:=Tryz.isAgg0,
  z0:=Tryz.sizeOf0,
  v0:=Tryz.zeroValue0,
  t3:=Tryz.underlying3,
  a3:=Tryz.isAgg3,
  z3:=Tryz.sizeOf3,
  v3:=Tryz.zeroValue3,
  t4:=Tryz.underlying4,
  a4:=Tryz.isAgg4,
  z4:=Tryz.sizeOf4,
  v4:=Tryz.zeroValue4,
  t5:=Tryz.underlying5,
  a5:=Tryz.isAgg5,
  z5:=Tryz.sizeOf5,
  v5:=Tryz.zeroValue5,
  t9:=Tryz.underlying9,
  a9:=Tryz.isAgg9,
  z9:=Tryz.sizeOf9,
  v9:=Tryz.zeroValue9,
  t28:=Tryz.underlying33,
  a28:=Tryz.isAgg33,
  z28:=Tryz.sizeOf33,
  v28:=Tryz.zeroValue33,
  t46:=Tryz.underlying172,
  a46:=Tryz.isAgg172,
  z46:=Tryz.sizeOf172,
  v46:=Tryz.zeroValue172,
  t51:=Tryz.underlying90,
  a51:=Tryz.isAgg90,
  z51:=Tryz.sizeOf90,
  v51:=Tryz.zeroValue90,
  t53:=Tryz.underlying327,
  a53:=Tryz.isAgg327,
  z53:=Tryz.sizeOf327,
  v53:=Tryz.zeroValue327,
  t131:=Tryz.underlying288,
  a131:=Tryz.isAgg288,
  z131:=Tryz.sizeOf288,
  v131:=Tryz.zeroValue288,
  t182:=Tryz.underlying318,
  a182:=Tryz.isAgg318,
  z182:=Tryz.sizeOf318,
  v182:=Tryz.zeroValue318,
  t183:=Tryz.underlying319,
  a183:=Tryz.isAgg319,
  z183:=Tryz.sizeOf319,
  v183:=Tryz.zeroValue319,
  t218:=Tryz.underlying343,
  a218:=Tryz.isAgg343,
  z218:=Tryz.sizeOf343,
  v218:=Tryz.zeroValue343,
  t222:=Tryz.underlying309,
  a222:=Tryz.isAgg309,
  z222:=Tryz.sizeOf309,
  v222:=Tryz.zeroValue309,
  t228:=Tryz.underlying355,
  a228:=Tryz.isAgg355,
  z228:=Tryz.sizeOf355,
  v228:=Tryz.zeroValue355,
  t229:=Tryz.underlying356,
  a229:=Tryz.isAgg356,
  z229:=Tryz.sizeOf356,
  v229:=Tryz.zeroValue356 }
end Go.Proofs
namespace Go.Proofs.YtkaikaodhegmhaaGreat.E
open Go Go.Proofs Go.RowKit Go.Maps Go.Shelf Go.Sort
set_option linter.unusedVariables false
set_option linter.unusedSimpArgs false
theorem c_sortInt {a:Option Addr} {n c τ:Nat} {l:List Int} {s:TH} (hO:Own s a n c 3 1 (ivs l) τ) (hn:n<=17592186044416):
  TRet Tryz.prog 97 #[.slice a n c] s fun v s'=>v=.tuple #[]/\Ch [τ] s s'/\Own s' a n c 3 1 (ivs (l.mergeSort fun x y=>decide (x<=y))) τ:=by
 have hl:l.length=n:=by have:=hO.1;rw [ivs_len] at this;omega
 by_cases h0:n=0
 ·subst h0
  have hss:l=[]:=List.eq_nil_of_length_eq_zero hl
  subst hss
  intro w hw
  refine (Any.slices_Sort_int_none Tryz.sortIA a c w).mono ?_
  rintro e w' ⟨rfl,rfl⟩
  exact ⟨⟨_,s,rfl,hw.symm,rfl,Ch.refl _ _,by simpa using hO⟩,Like.refl _⟩
 obtain ⟨g,o,rfl⟩: ∃g o,a=some ⟨g,o,none⟩:=by
  rcases hO.2 with ⟨_,h,_⟩|⟨g,o,L,h,_⟩
  ·exact absurd h h0
  ·exact ⟨g,o,h⟩
 have hgt:s.g g=τ:=hO.tagOf
 intro w hw
 have hH:Go.Sort.Holds (Value.int .i64) w g o l.toArray:=by
  intro j hj
  have hj':j<l.length:=by simpa using hj
  have hcell:=hO.sl.cells w hw j (.int .i64 l.toArray[j]!) (by simp [ivs,hj'])
  rw [add_mk] at hcell
  refine ⟨hcell,?_⟩
  rcases hO.2 with ⟨h,_⟩|⟨g',o',L,h,h1,_⟩
  ·cases h
  ·cases h
   rw [frozen_eq,hw];exact h1.frozen _
 have hS:=Any.slices_Sort_int Tryz.sortIA g o c l w hH (by rw [hw];rcases hO.2 with ⟨h,_⟩|⟨g',o',L,h,h1,_⟩<;>cases h;exact h1.lt) (by omega)
 rw [hl] at hS
 refine hS.mono ?_
 rintro e w' ⟨rfl,n',os,rfl⟩
 refine ⟨⟨_,⟨_,s.g⟩,rfl,rfl,rfl,Chg.mono (sortW_on (enc:=Value.int .i64) hw g o n' _ os) (fun j hj e=>by subst e;show s.g j∈[τ];rw [hgt];simp),?_⟩,rfl,rfl,rfl⟩
 have:=sortW_own (enc:=Value.int .i64) hw hO n' (l.mergeSort fun x y=>decide (x<=y)).toArray (by simp [hl]) os
 exact this
theorem ivs_set (l:List Int) (i:Nat) (x:Int):(ivs l).set i (.int .i64 x)=ivs (l.set i x):=by simp [ivs,List.map_set]
theorem snoc_ind {α:Type} {p:List α->Prop} (h0:p []) (h1: ∀l x,p l->p (l++[x])) (l:List α):p l:=by
 rw [←l.reverse_reverse]
 induction l.reverse with
 |nil=>exact h0
 |cons x t ih=>rw [List.reverse_cons];exact h1 _ x ih
def cptS (acc:List Int) (x:Int):List Int:=if acc.getLast? =some x then acc else acc++[x]
def cpt (l:List Int):List Int:=l.foldl cptS []
theorem cpt_snoc (l:List Int) (x:Int):cpt (l++[x])=cptS (cpt l) x:=by simp [cpt,List.foldl_append]
theorem cpt_last (l:List Int):(cpt l).getLast? =l.getLast? :=by
 induction l using snoc_ind with
 |h0=>rfl
 |h1 l x ih=>
  rw [cpt_snoc]
  unfold cptS
  by_cases h:(cpt l).getLast? =some x
  ·rw [if_pos h,h];simp
  rw [if_neg h];simp
theorem cpt_len (l:List Int):(cpt l).length<=l.length:=by
 induction l using snoc_ind with
 |h0=>simp [cpt]
 |h1 l x ih=>
  rw [cpt_snoc]
  unfold cptS
  split<;>simp<;>omega
theorem cpt_take {l:List Int} {k:Nat} {x:Int} (h:l[k]? =some x):cpt (l.take (k+1))=if (l.take k).getLast? =some x then cpt (l.take k) else cpt (l.take k)++[x]:=by
 rw [List.take_add_one,h,Option.toList_some,cpt_snoc]
 unfold cptS
 rw [cpt_last]
theorem last_take {l:List Int} {k:Nat} {y:Int} (h:l[k]? =some y):(l.take (k+1)).getLast? =some y:=by
 rw [List.take_add_one,h];simp
theorem c_compact {a:Option Addr} {n c τ:Nat} {l:List Int} {s:TH} (hO:Own s a n c 3 1 (ivs l) τ) (hn:n<=17592186044416):TRet Tryz.prog 98 #[.slice a n c] s fun v s'=>v=.slice a (cpt l).length c/\Ch [τ] s s'/\Own s' a (cpt l).length c 3 1 (ivs (cpt l)) τ:=by
 have hl:l.length=n:=by have:=hO.1;rw [ivs_len] at this;omega
 have hle:=hO.le
 refine F98_calls _ _ _  ?_
 unfold F98
 refine sB_d (fun B=>?_) (fun B=>?_)
 ·refine ret_t ?_
  have e:cpt l=l:=by
   match l,hl with
   |[],_=>rfl
   |[x],_=>rfl
   |x::y::l,h=>simp at h;omega
  rw [e,hl]
  exact ⟨rfl,(Ch.refl [τ] s),hO⟩
 refine ⟨fun vs H'=>∃s':TH,s'.h=H'/\∃i,vs=[.int .i64 i]/\ChL [τ] [] s s'/\(∃k:Nat,i=k/\1<=k/\k<=n/\cpt (l.take k)=l.take k/\Own s' a n c 3 1 (ivs l) τ),fun vs H'=>match vs with|[.int .i64 i]=>((n:Int) - i).toNat|_=>0,⟨s,rfl,_,rfl,ChL.refl _ _ _,?_⟩,?_⟩
 ·refine ⟨1,rfl,by omega,by omega,?_,hO⟩
  match l,hl with
  |[],h=>simp at h;omega
  |x::l,_=>rfl
 intro i
 iterate 53 intro _
 intro K hI
 obtain ⟨g,rfl,i_,hvs,r,k,rfl,hk1,hk,hcp,f⟩:=hI
 cases hvs
 have L:=r.size
 refine sB_d (fun C=>?_) (fun C=>?_)
 ·have hk2:k<n:=by omega
  obtain ⟨x,hx⟩: ∃x,l[k]? =some x:=⟨l[k],by simp [hl,hk2]⟩
  obtain ⟨y,hy⟩: ∃y,l[k - 1]? =some y:=⟨l[k - 1]'(by omega),by simp⟩
  obtain ⟨b,rfl⟩:=f.ne_none (by omega)
  refine nz_i (ask_t (by omega) ?_)
  refine ld_sl f.sl (by rw [Int.toNat_natCast,Nat.mul_one];exact ivs_get hx) ?_
  refine dInt_i (wr_t (by omega) ?_)
  rw [show ((k:Int) - 1)=((k - 1:Nat):Int) from by omega]
  refine nz_i (ask_t (by omega) ?_)
  refine ld_sl f.sl (by rw [Int.toNat_natCast,Nat.mul_one];exact ivs_get hy) ?_
  refine dInt_i ?_
  refine sB_eq (fun j=>?_) (fun j=>?_)
  ·refine ask_t (by omega) ?_
   refine ⟨fun vs H'=>∃s':TH,s'.h=H'/\∃i2 k2,vs=[.int .i64 i2,.int .i64 k2]/\ChL [τ] [] g s'/\(∃(p q:Nat) (X:List Int),i2=p/\k2=q/\1<=q/\k+q<=n/\1<=p/\p+1<=k+q/\Own s' (some b) n c 3 1 (ivs X) τ/\X.drop (k+q - 1)=l.drop (k+q - 1)/\X.take p=cpt (l.take (k+q))),fun vs H'=>match vs with|[.int .i64 i2,.int .i64 k2]=>((n:Int) - k2).toNat|_=>0,⟨g,rfl,_,_,rfl,ChL.refl _ _ _,?_⟩,?_⟩
   ·refine ⟨k,1,l,rfl,rfl,by omega,by omega,by omega,by omega,f,rfl,?_⟩
    rw [cpt_take hx,show k=(k - 1)+1 by omega,last_take hy,if_pos (by rw [j]),show k - 1+1=k by omega,hcp]
   intro i2 k2
   iterate 25 intro _
   intro M hI
   obtain ⟨F,rfl,i2_,k2_,hvs,t,p,q,X,rfl,rfl,hq1,hq,hp1,hp,d,hX1,hX2⟩:=hI
   cases hvs
   have N:=t.size
   have hXn:X.length=n:=by have:=d.len;rw [ivs_len] at this;omega
   refine sB_d (fun w=>?_) (fun w=>?_)
   all_goals simp only [Int.toNat_natCast] at w
   ·refine jn_u ?_
    have hkq:k+q<n:=by omega
    obtain ⟨x2,hx2⟩: ∃x,l[k+q]? =some x:=⟨l[k+q]'(by omega),by simp⟩
    obtain ⟨y2,hy2⟩: ∃y,l[k+q - 1]? =some y:=⟨l[k+q - 1]'(by omega),by simp⟩
    have hXx:X[k+q]? =some x2:=by have:=congrArg (·[1]?) hX1;simp only [List.getElem?_drop] at this;rw [show k+q - 1+1=k+q by omega] at this;rw [this,hx2]
    have hXy:X[k+q - 1]? =some y2:=by have:=congrArg (·[0]?) hX1;simp only [List.getElem?_drop,Nat.add_zero] at this;rw [this,hy2]
    have hcut:=d.cut (m:=k) (by omega)
    rw [Nat.mul_one,ivs_drop] at hcut
    obtain ⟨b2,hb2⟩:=hcut.ne_none (by rw [ivs_len,List.length_drop];have:=d.len;rw [ivs_len] at this;omega)
    rw [hb2] at hcut ⊢
    refine nz_i (ask_t (by omega) ?_)
    refine ld_sl hcut (by rw [Int.toNat_natCast,Nat.mul_one];exact ivs_get (by rw [List.getElem?_drop];exact hXx)) ?_
    refine dInt_i (wr_t (by omega) ?_)
    rw [show ((q:Int) - 1)=((q - 1:Nat):Int) from by omega]
    refine nz_i (ask_t (by omega) ?_)
    refine ld_sl hcut (by rw [Int.toNat_natCast,Nat.mul_one];exact ivs_get (by rw [List.getElem?_drop,show k+(q - 1)=k+q - 1 by omega];exact hXy)) ?_
    refine dInt_i ?_
    refine sB_ne (fun o=>?_) (fun o=>?_)
    ·refine nz_i (ask_t (by omega) ?_)
     refine ld_sl hcut (by rw [Int.toNat_natCast,Nat.mul_one];exact ivs_get (by rw [List.getElem?_drop];exact hXx)) ?_
     refine dInt_i (nz_i (ask_t (by omega) ?_))
     refine Own.st d rfl (by rw [Int.toNat_natCast];omega) fun D G H O=>?_
     have E:=Ch.on_tag (T:=[τ]) (Ch.refl _ _) H d.tagOf (by simp)
     refine wr_t (by omega) ?_
     iterate 19 intro _
     refine dInt_i (wr_t (by omega) ?_)
     refine ⟨⟨D,rfl,_,_,rfl,(((ChL.refl [τ] [] g).chl t (by simp) (by simp<;>omega)).ch E (by simp)),?_⟩,?_⟩
     ·refine ⟨p+1,q+1,X.set p x2,by omega,by omega,by omega,by omega,by omega,by omega,?_,?_,?_⟩
      ·have h:=G
       rw [Int.toNat_natCast,Nat.mul_one,ivs_set] at h
       exact h
      ·rw [show k+(q+1) - 1=k+q - 1+1 by omega,List.drop_set_of_lt (by omega), ←List.drop_drop,hX1,List.drop_drop]
      rw [show k+(q+1)=k+q+1 by omega,cpt_take hx2,show k+q=k+q - 1+1 by omega,last_take hy2,if_neg (by intro e;cases e;exact o rfl),show k+q - 1+1=k+q by omega, ←hX2,List.take_add_one,List.getElem?_set_self (by have:=(List.getElem?_eq_some_iff.1 hXx).1;omega),List.take_set_of_le (Nat.le_refl _)]
      rfl
     first|omega|(simp only [];omega)
    iterate 19 intro _
    refine dInt_i (wr_t (by omega) ?_)
    refine ⟨⟨F,rfl,_,_,rfl,((ChL.refl [τ] [] g).chl t (by simp) (by simp<;>omega)),?_⟩,?_⟩
    ·refine ⟨p,q+1,X,by omega,by omega,by omega,by omega,by omega,by omega,d,?_,?_⟩
     ·rw [show k+(q+1) - 1=k+q - 1+1 by omega, ←List.drop_drop,hX1,List.drop_drop]
     rw [show k+(q+1)=k+q+1 by omega,cpt_take hx2,show k+q=k+q - 1+1 by omega,last_take hy2,if_pos (by rw [o]),show k+q - 1+1=k+q by omega,hX2]
    first|omega|(simp only [];omega)
   refine ask_t (by omega) ?_
   simp only [Int.toNat_natCast]
   refine clear_t u33 in3 rfl (by intro u hu;simp [Value.cells] at hu;subst hu;rfl) (d.pre (m:=p) (by omega)) (m:=n) (by omega) (by omega) fun I q2_13 A _=>?_
   have z:=A.ch (T:=[τ]) (d.pre (m:=p) (by omega)) (by simp)
   have J:=z.size
   refine ask_t (by omega) ?_
   refine ret_t ?_
   have hkn:k+q=n:=by omega
   rw [hkn,List.take_of_length_le (l:=l) (by omega)] at hX2
   have hpl:(cpt l).length=p:=by rw [←hX2,List.length_take];omega
   have hO2:=q2_13
   rw [Nat.mul_one,ivs_take,hX2] at hO2
   rw [hpl]
   simp only [slO_zero,Int.toNat_zero,Nat.sub_zero]
   exact ⟨trivial,((((Ch.refl [τ] s).chl r (by simp) (by simp<;>omega)).chl t (by simp) (by simp<;>omega)).ch z (by simp)),hO2⟩
  refine wr_t (by omega) ?_
  refine ⟨⟨g,rfl,_,rfl,((ChL.refl [τ] [] s).chl r (by simp) (by simp<;>omega)),?_⟩,?_⟩
  ·refine ⟨k+1,by omega,by omega,by omega,?_,f⟩
   rw [cpt_take hx,show k=(k - 1)+1 by omega,last_take hy,if_neg (by intro e;cases e;exact j rfl),show k - 1+1=k by omega,hcp,List.take_add_one,hx]
   rfl
  first|omega|(simp only [];omega)
 refine ret_t ?_
 have hkn:k=n:=by omega
 rw [hkn,List.take_of_length_le (by omega)] at hcp
 rw [hcp,hl]
 exact ⟨rfl,((Ch.refl [τ] s).chl r (by simp) (by simp<;>omega)),f⟩
end Go.Proofs.YtkaikaodhegmhaaGreat.E
namespace Go.Proofs.YtkaikaodhegmhaaGreat.E
open Go Go.ChangeMaps
set_option linter.unusedVariables false
set_option linter.unusedSimpArgs false
theorem nodup_ix {α:Type} {l:List α} (h:l.Nodup) {i j:Nat} (hi:i<l.length) (hj:j<l.length) (e:l[i]=l[j]):i=j:=by
 have hp:=List.pairwise_iff_getElem.1 h
 rcases Nat.lt_trichotomy i j with h1|h1|h1
 ·exact absurd e (hp i j hi hj h1)
 ·exact h1
 exact absurd e.symm (hp j i hj hi h1)
structure ItK {κ:Type} (kf:κ->Value) (s:TH) (q r:Nat) (m:List (κ×Value)) (vis:List κ) (τ τq:Nat):Prop where
 ex: ∃(es:List MapEntry) (ck:Nat) (seen:Array Nat),s.h[r]? =some (.map es.toArray ck)/\Ents kf es ck m/\s.h[q]? =some (.mapIter (some r) ck seen ck)/\
  (∀e∈es,∀k,e.key=kf k->(seen.contains e.born=true↔k∈vis))/\(∀vis' k,vis=vis'++[k]->∀e∈es,e.key=kf k->seen.back? =some e.born)
 tag:s.g r=τ
 tagq:s.g q=τq
 nd:(m.map (·.1)).Nodup
 sub:vis.Nodup
def leftH (H:Heap) (q r:Nat):Nat:=
 match H[r]?,H[q]? with
 |some (.map es _),some (.mapIter _ _ seen _)=>(leftOf es seen).size
 |_,_=>0
section
variable {κ :Type} {kf:κ->Value} {s s':TH} {q r τ τq:Nat} {m:List (κ×Value)} {vis:List κ}
theorem ItK.map (h:ItK kf s q r m vis τ τq):MapK kf s r m τ:=by
 obtain ⟨es,ck,seen,h1,h2,_⟩:=h.ex
 exact ⟨⟨es,ck,h1,h2⟩,h.tag,h.nd⟩
theorem ItK.ltq (h:ItK kf s q r m vis τ τq):q<s.h.size:=by
 obtain ⟨es,ck,seen,_,_,h1,_⟩:=h.ex
 exact (Array.getElem?_eq_some_iff.1 h1).1
theorem ItK.mv {B:Nat->Prop} (h:ItK kf s q r m vis τ τq) (c:Chg B s s') (hr: ¬B r) (hq: ¬B q):ItK kf s' q r m vis τ τq:=by
 have l1:=h.map.lt
 have l2:=h.ltq
 obtain ⟨es,ck,seen,h1,h2,h3,h4⟩:=h.ex
 exact ⟨⟨es,ck,seen,(c.get r l1 hr).trans h1,h2,(c.get q l2 hq).trans h3,h4⟩,(c.tag r l1).trans h.tag,(c.tag q l2).trans h.tagq,h.nd,h.sub⟩
theorem ItK.ch {T:List Nat} (h:ItK kf s q r m vis τ τq) (c:Ch T s s') (hr:τ∉T) (hq:τq∉T):ItK kf s' q r m vis τ τq:=
 h.mv c (by show s.g r∉T;rw [h.tag];exact hr) (by show s.g q∉T;rw [h.tagq];exact hq)
theorem ents_keys {es:List MapEntry} {ck:Nat} (he:Ents kf es ck m) {e:MapEntry} (h:e∈es): ∃p∈m,e.key=kf p.1/\e.val=p.2:=by
 obtain ⟨i,hi,rfl⟩:=List.getElem_of_mem h
 have hl:es.length=m.length:=by have:=congrArg List.length he.key;simpa using this
 refine ⟨m[i]'(by omega),List.getElem_mem _,?_,?_⟩
 ·have:=congrArg (·[i]?) he.key
  simpa [hi,show i<m.length by omega] using this
 have:=congrArg (·[i]?) he.val
 simpa [hi,show i<m.length by omega] using this
theorem left_len [DecidableEq κ] (hinj: ∀a b,kf a=kf b->a=b): ∀ {es:List MapEntry} {m:List (κ×Value)} {seen:Array Nat} {vis:List κ},es.map (·.key)=m.map (fun p=>kf p.1)->(∀e∈es,∀k,e.key=kf k->(seen.contains e.born=true↔k∈vis))->
  (es.filter fun e=> !seen.contains e.born).length=(m.filter fun p=> !decide (p.1∈vis)).length
 |[],[],_,_,_,_=>rfl
 |[],_::_,_,_,h,_=>by simp at h
 |_::_,[],_,_,h,_=>by simp at h
 |e::es,p::m,seen,vis,h,hs=>by
  simp only [List.map_cons,List.cons.injEq] at h
  have h1:=hs e (by simp) p.1 h.1
  have h2:=left_len hinj (seen:=seen) (vis:=vis) h.2 (fun e' he'=>hs e' (List.mem_cons_of_mem _ he'))
  rw [List.filter_cons,List.filter_cons]
  by_cases hp:p.1∈vis
  ·rw [h1.2 hp];simp only [Bool.not_true,hp,decide_true,Bool.false_eq_true,if_false];exact h2
  ·have:seen.contains e.born=false:=by rw [←Bool.not_eq_true];exact fun h=>hp (h1.1 h)
   rw [this];simp only [Bool.not_false,hp,decide_false,if_true,List.length_cons];rw [h2]
theorem ItK.left [DecidableEq κ] (hinj: ∀a b,kf a=kf b->a=b) (h:ItK kf s q r m vis τ τq):leftH s.h q r=(m.filter fun p=> !decide (p.1∈vis)).length:=by
 obtain ⟨es,ck,seen,h1,h2,h3,h4,_⟩:=h.ex
 unfold leftH
 rw [h1,h3]
 show (leftOf es.toArray seen).size=_
 rw [←left_len hinj h2.key h4]
 unfold leftOf
 simp
end
section
variable {κ :Type} {kf:κ->Value} {P:Program} {T Kt Et:TypeId} {E:List PanicEntry->Heap->Prop} {s:TH} {q r τ:Nat} {m:List (κ×Value)} {vis:List κ}
theorem range_t (τq:Nat) {K:Value->Heap->Prop} (hT:P.underlying T=some (.map Kt Et)) (h:MapK kf s r m τ) (hinj: ∀a b,kf a=kf b->a=b)
  (hk: ∀(s':TH) (q:Nat),q=s.h.size->ItK kf s' q r m [] τ τq->Ch [] s s'->K (.pointer (some ⟨q,0,none⟩)) s'.h):
  semW P (Instr.range T (.map (some r))) E s.h K:=.mk fun w hw=>by
 have hlt:=h.lt
 obtain ⟨es,ck,hg,he⟩:=h.get
 have h1:(getObj r).run P w=.ok (.map es.toArray ck) w:=by
  show Sem.run P (.getObj r .pure) w=_
  simp only [Sem.run,hw,hg]
 have hr:(Instr.range T (.map (some r))).run P w=.ok (.pointer (some ⟨w.heap.size,0,none⟩)) { w with heap:=w.heap.push (.mapIter (some r) ck #[] ck) }:=by
  simp only [Instr.range,Sem.run_bind,run_under hT,Result.andThen_ok,h1,Sem.run_pure]
  rfl
 rw [hr]
 refine ⟨?_,rfl,rfl,rfl⟩
 have:=hk ⟨s.h.push (.mapIter (some r) ck #[] ck),upd s.g s.h.size τq⟩ s.h.size rfl ⟨⟨es,ck,#[],by
  show (s.h.push _)[r]? =_
  rw [Array.getElem?_push,if_neg (by omega)];exact hg,he,by simp,fun e _ k _=>by simp,fun vis' k hv=>by simp at hv⟩,by simp [upd,Nat.ne_of_lt hlt,h.tag],by simp [upd],h.nd,List.nodup_nil⟩ (pushed _ _ _)
 rw [←hw] at this
 exact this
theorem next_t {τq:Nat} {ty:TypeId} {K:Value->Heap->Prop} (h:ItK kf s q r m vis τ τq) (hinj: ∀a b,kf a=kf b->a=b)
  (h1: ∀(s':TH) (k:κ) (x:Value),(k,x)∈m->k∉vis->ItK kf s' q r m (vis++[k]) τ τq->On q s s'->s.h.size=s'.h.size->K (.tuple #[.bool true,kf k,x]) s'.h)
  (h2:(∀k∈m.map (·.1),k∈vis)->K (.tuple #[.bool false]) s.h):
  semW P (Instr.next (.pointer (some ⟨q,0,none⟩)) false ty) E s.h K:=.mk fun w hw=>by
 have l1:=h.map.lt
 have l2:=h.ltq
 obtain ⟨es,ck,seen,e1,e2,e3,e4,e5⟩:=h.ex
 rcases run_next_at (P:=P) w ty q r ck ck seen es.toArray ck (by rw [hw];exact e3) (by rw [hw];exact e1) (by simpa using e2.old) (Nat.le_refl _) with ⟨h0,hr⟩|⟨e,he,w1,hw1,hr⟩
 ·rw [hr]
  suffices hall: ∀k∈m.map (·.1),k∈vis from ⟨by rw [hw];exact h2 hall,Like.refl w⟩
  intro k hk
  obtain ⟨p,hp,rfl⟩:=List.mem_map.1 hk
  have:kf p.1∈es.map (·.key):=by rw [e2.key];exact List.mem_map.2 ⟨p,hp,rfl⟩
  obtain ⟨e,he,hek⟩:=List.mem_map.1 this
  rw [←e4 e he p.1 hek]
  have h0':leftOf es.toArray seen=#[]:=Array.eq_empty_of_size_eq_zero h0
  unfold leftOf at h0'
  rw [Array.filter_eq_empty_iff] at h0'
  have:=h0' e (by simpa using he)
  simpa using this
 ·rw [hr]
  unfold leftOf at he
  simp at he
  obtain ⟨he1,he2⟩:=he
  obtain ⟨p,hp,k1,k2⟩:=ents_keys e2 he1
  have hpv:p.1∉vis:=fun hv=>by
   have:=(e4 e he1 p.1 k1).2 hv
   simp at this
   exact he2 this
  have hone: ∀e'∈es,e'.key=kf p.1->e'=e:=fun e' he' hk'=>by
   obtain ⟨i,hi,rfl⟩:=List.getElem_of_mem he'
   obtain ⟨j,hj,rfl⟩:=List.getElem_of_mem he1
   have hl:es.length=m.length:=by have:=congrArg List.length e2.key;simpa using this
   have hki:kf (m[i]'(by omega)).1=(es[i]).key:=by
    have:=congrArg (·[i]?) e2.key
    simpa [hi,show i<m.length by omega] using this.symm
   have hkj:kf (m[j]'(by omega)).1=(es[j]).key:=by
    have:=congrArg (·[j]?) e2.key
    simpa [hj,show j<m.length by omega] using this.symm
   have hkk:(m[i]'(by omega)).1=(m[j]'(by omega)).1:=hinj _ _ (by rw [hki,hkj,hk',k1])
   have hij:i=j:=by
    have hn:=h.nd
    exact nodup_ix hn (i:=i) (j:=j) (by simp;omega) (by simp;omega) (by simpa using hkk)
   subst hij;rfl
  have hsz:w1.heap=w.heap:=by rcases hw1 with rfl|rfl<;>rfl
  have hb:(setBlock w1 q (.mapIter (some r) ck (seen.push e.born) ck)).heap=s.h.setIfInBounds q (.mapIter (some r) ck (seen.push e.born) ck):=by
   show (w1.heap.setIfInBounds q _)=_
   rw [hsz,hw]
  have hK:=h1 ⟨s.h.setIfInBounds q (.mapIter (some r) ck (seen.push e.born) ck),s.g⟩ p.1 p.2 hp hpv ⟨⟨es,ck,seen.push e.born,?_,e2,by simp [l2],fun e' he' k hk'=>?_,fun vis' k hv e' he' hk'=>?_⟩,h.tag,h.tagq,h.nd,?_⟩ ⟨by simp,fun _ _=>rfl,fun j hj hn=>?_⟩ (by simp)
  ·refine ⟨by rw [hb];rw [k1,k2];exact hK,?_⟩
   rcases hw1 with rfl|rfl<;>exact ⟨rfl,rfl,rfl⟩
  ·show (s.h.setIfInBounds q _)[r]? =_
   by_cases hqr:q=r
   ·subst hqr;rw [e1] at e3;cases e3
   ·rw [Array.getElem?_setIfInBounds_ne hqr];exact e1
  ·rw [List.mem_append,List.mem_singleton, ←e4 e' he' k hk']
   have hc:(seen.push e.born).contains e'.born=true↔(seen.contains e'.born=true∨e'.born=e.born):=by simp
   rw [hc]
   refine or_congr Iff.rfl ⟨fun hbn=>?_,fun hk=>?_⟩
   ·have hee:e'=e:=by
     have hn:=e2.born
     obtain ⟨i,hi,rfl⟩:=List.getElem_of_mem he'
     obtain ⟨j,hj,rfl⟩:=List.getElem_of_mem he1
     have hij:i=j:=nodup_ix hn (i:=i) (j:=j) (by simpa using hi) (by simpa using hj) (by simpa using hbn)
     subst hij;rfl
    subst hee
    exact hinj _ _ (hk'.symm.trans k1)
   ·subst hk;rw [hone e' he' hk']
  ·obtain ⟨h3,h4⟩:=List.append_inj' hv rfl
   simp at h4
   subst h4
   rw [hone e' he' hk'];simp
  ·rw [List.nodup_append]
   exact ⟨h.sub,by simp,fun a ha b hb hab=>by simp at hb;subst hb;subst hab;exact hpv ha⟩
  ·show (s.h.setIfInBounds q _)[j]? =_
   rw [Array.getElem?_setIfInBounds_ne (fun e=>hn e.symm)]
theorem entry_t {τq:Nat} {K:Value->Heap->Prop} {k:κ} {x:Value} (h:ItK kf s q r m (vis++[k]) τ τq) (hm:(k,x)∈m) (hinj: ∀a b,kf a=kf b->a=b)
  (hk:K (.tuple #[kf k,x]) s.h):semW P (Instr.entry (.pointer (some ⟨q,0,none⟩))) E s.h K:=.mk fun w hw=>by
 obtain ⟨es,ck,seen,e1,e2,e3,e4,e5⟩:=h.ex
 have hr:(getObj q).run P w=.ok (.mapIter (some r) ck seen ck) w:=by
  show Sem.run P (.getObj q .pure) w=_
  simp only [Sem.run,hw,e3]
 have hr2:(getObj r).run P w=.ok (.map es.toArray ck) w:=by
  show Sem.run P (.getObj r .pure) w=_
  simp only [Sem.run,hw,e1]
 have:kf k∈es.map (·.key):=by rw [e2.key];exact List.mem_map.2 ⟨_,hm,rfl⟩
 obtain ⟨e,he,hek⟩:=List.mem_map.1 this
 have hb:=e5 vis k rfl e he hek
 have hfind:es.toArray.find? (fun e'=>e'.born==e.born)=some e:=by
  rw [List.find?_toArray]
  have hn:=e2.born
  clear e4 e5 e2 hr2 this
  revert he hn
  generalize es=l
  intro he hn
  induction l with
  |nil=>cases he
  |cons y l ih=>
   rw [List.map_cons,List.nodup_cons] at hn
   rw [List.find?_cons]
   rcases List.mem_cons.1 he with rfl|he
   ·simp
   ·have:(y.born==e.born)=false:=by
     simp only [beq_eq_false_iff_ne];intro e';exact hn.1 (by rw [e'];exact List.mem_map.2 ⟨e,he,rfl⟩)
    rw [this];exact ih he hn.2
 have hval:e.val=x:=by
  obtain ⟨p,hp,k1,k2⟩:=ents_keys e2 he
  have hpk:p.1=k:=hinj _ _ (k1.symm.trans hek)
  have hn:=h.nd
  have:p=(k,x):=by
   obtain ⟨i,hi,rfl⟩:=List.getElem_of_mem hp
   obtain ⟨j,hj,hje⟩:=List.getElem_of_mem hm
   have hij:i=j:=nodup_ix hn (i:=i) (j:=j) (by simpa using hi) (by simpa using hj) (by simp [hpk,hje])
   subst hij;exact hje
  rw [k2,this]
 have hrun:(Instr.entry (.pointer (some ⟨q,0,none⟩))).run P w=.ok (.tuple #[kf k,x]) w:=by
  simp [Instr.entry,hr,hr2,hb,hfind,hek,hval]
 rw [hrun]
 exact ⟨by rw [hw];exact hk,Like.refl w⟩
end
theorem filt_less {κ:Type} [DecidableEq κ] {k:κ} {x:Value} {vis:List κ} {m:List (κ×Value)} (h:(k,x)∈m) (hv:k∉vis):(m.filter fun p=> !decide (p.1∈vis++[k])).length<(m.filter fun p=> !decide (p.1∈vis)).length:=by
 have step: ∀(p:κ×Value) (m:List (κ×Value)),∃a b:Nat,((p::m).filter fun p=> !decide (p.1∈vis++[k])).length=a+(m.filter fun p=> !decide (p.1∈vis++[k])).length/\((p::m).filter fun p=> !decide (p.1∈vis)).length=b+(m.filter fun p=> !decide (p.1∈vis)).length/\a<=b/\(p.1=k->a<b):=fun p m=>by
  rw [List.filter_cons,List.filter_cons]
  by_cases h1:p.1∈vis
  ·have h2:p.1∈vis++[k]:=List.mem_append_left _ h1
   rw [decide_eq_true h1,decide_eq_true h2]
   exact ⟨0,0,by simp,by simp,Nat.le_refl _,fun e=>absurd (e▸h1) hv⟩
  rw [decide_eq_false h1]
  by_cases h2:p.1=k
  ·have h3:p.1∈vis++[k]:=List.mem_append_right _ (List.mem_singleton.2 h2)
   rw [decide_eq_true h3]
   exact ⟨0,1,by simp,by simp;omega,by omega,fun _=>by omega⟩
  have h3:p.1∉vis++[k]:=fun h=>(List.mem_append.1 h).elim h1 fun h=>h2 (List.mem_singleton.1 h)
  rw [decide_eq_false h3]
  exact ⟨1,1,by simp;omega,by simp;omega,Nat.le_refl _,fun e=>absurd e h2⟩
 have hle: ∀m:List (κ×Value),(m.filter fun p=> !decide (p.1∈vis++[k])).length<=(m.filter fun p=> !decide (p.1∈vis)).length:=fun m=>by
  induction m with
  |nil=>simp
  |cons p m ih=>
   obtain ⟨a,b,e1,e2,e3,_⟩:=step p m
   omega
 induction m with
 |nil=>cases h
 |cons p m ih=>
  obtain ⟨a,b,e1,e2,e3,e4⟩:=step p m
  rcases List.mem_cons.1 h with h|h
  ·have:=e4 (by rw [←h])
   have:=hle m
   omega
  have:=ih h
  omega
theorem it_less {κ:Type} [DecidableEq κ] {kf:κ->Value} (hinj: ∀a b,kf a=kf b->a=b) {s s':TH} {q r τ τq:Nat} {m m':List (κ×Value)} {vis:List κ} {k:κ} {x:Value} (it:ItK kf s q r m vis τ τq) (it':ItK kf s' q r m' (vis++[k]) τ τq)
  (hm:(k,x)∈m) (hv:k∉vis) (hs:m'.Sublist m):leftH s'.h q r<leftH s.h q r:=by
 rw [it.left hinj,it'.left hinj]
 exact Nat.lt_of_le_of_lt (hs.filter _).length_le (filt_less hm hv)
theorem conv_bs {P:Program} {src dst e:TypeId} {E:List PanicEntry->Heap->Prop} {s:TH} {xa:Option Addr} {xn xc τ:Nat} {l:List UInt8} {K:Value->Heap->Prop}
  (hs:P.underlying src=some (.slice e)) (he:P.underlying e=some (.int .u8)) (hd:P.underlying dst=some .string) (hx:Sl s xa (bvs l) τ) (hn:l.length=xn) (h0:xa=none->xn=0) (hk:K (.string ⟨l.toArray⟩) s.h):
  semW P (convert src dst (.slice xa xn xc)) E s.h K:=.mk fun w hw=>by
 subst hn
 cases xa with
 |none=>
  have:l=[]:=List.eq_nil_of_length_eq_zero (h0 rfl)
  subst this
  rw [run_convert_bytes_nil w src e hs he _ _ dst hd]
  exact ⟨by rw [hw];exact hk,Like.refl w⟩
 |some a=>
  rw [run_convert_bytes_back w src dst e a xc l hs he hd (fun j hj=>hx.cells w hw j _ (by simp [bvs,bv,hj]))]
  exact ⟨by rw [hw];exact hk,Like.refl w⟩
theorem dNx_f {x:Prop} {k:Value->Value->Prop} (h:x):dNx (.tuple #[.bool false]) x k:=h
theorem dNx_t {x:Prop} {k:Value->Value->Prop} {a b:Value} (h:k a b):dNx (.tuple #[.bool true,a,b]) x k:=h
theorem iinj : ∀a b:Int,Value.int .i64 a=Value.int .i64 b->a=b:=fun a b h=>by simpa using h
end Go.Proofs.YtkaikaodhegmhaaGreat.E
namespace Go.Proofs.YtkaikaodhegmhaaGreat.E
open Go Go.Conc.Locks
set_option linter.unusedVariables false
theorem setcell_on {s:TH} {r:Nat} {l:List Value} {t τ i:Nat} {v:Value} (h:Blk s r l t τ) {w:World} (hw:w.heap=s.h):
  (⟨setH s.h ⟨r,i,none⟩ v,s.g⟩:TH).h=(w.setCell ⟨r,i,none⟩ v).heap:=by rw [set_eq,hw]
theorem on_ch {s s':TH} {r:Nat} {l:List Value} {t τ:Nat} (h:Blk s r l t τ) (c:On r s s'):Ch [τ] s s':=Chg.mono c fun j _ e=>by subst e;rw [h.tag];simp
theorem like_set (w:World) (a:Addr) (v:Value):Like w (w.setCell a v):=⟨rfl,rfl,rfl⟩
theorem c_mlock {P:Program} {L:MuLink} (M:MuLib P L) {s:TH} {r i:Nat} {l:List Value} {t τ:Nat} (h:Blk s r l t τ) (hi:l[i]? =some (.int .i32 0)):
  TRet P L.lock #[.pointer (some ⟨r,i,none⟩)] s fun v s'=>v=.tuple #[]/\Ch [τ] s s'/\Blk s' r (l.set i (.int .i32 1)) t τ:=by
 intro w hw
 refine (Go.MuLone.lock_free M ⟨r,i,none⟩ w ?_ ?_).mono ?_
 ·rw [cell_eq,hw,h.cell];exact hi
 ·rw [frozen_eq,hw];exact h.frozen i
 rintro e w' ⟨rfl,rfl⟩
 have:=set_on (i:=i) (v:=.int .i32 1) h
 exact ⟨⟨_,_,rfl,setcell_on h hw,rfl,on_ch h this.2,this.1⟩,like_set w _ _⟩
theorem c_door {P:Program} {L:MuLink} (M:MuLib P L) {s:TH} {r i:Nat} {l:List Value} {t τ:Nat} (h:Blk s r l t τ) (hi:l[i]? =some (.int .i32 1))
  {fn:Func} {tmps:Array Value} {R:Ending->Heap->Prop} {v:Value} {K2:List PanicEntry->FrameMode->Heap->Prop} (he: ∀H,resK P fn tmps R H=R (.returned v) H)
  (hk: ∀s':TH,Blk s' r (l.set i (.int .i32 0)) t τ->On r s s'->s.h.size=s'.h.size->R (.returned v) s'.h):
  HCallsD P L.unlock #[.pointer (some ⟨r,i,none⟩)] .returning s.h (fun e u H'=>match e with
   |.returned _=>leavesV P fn tmps R [] (settle u) H'
   |.panicked c=>K2 c u H'
   |.outgrown=>False):=by
 intro w hw
 refine (Go.MuLone.unlock_deferred M ⟨r,i,none⟩ .returning w ?_ ?_).mono ?_
 ·rw [cell_eq,hw,h.cell];exact hi
 ·rw [frozen_eq,hw];exact h.frozen i
 rintro e u w' ⟨rfl,rfl,rfl⟩
 have:=set_on (i:=i) (v:=.int .i32 0) h
 refine ⟨?_,like_set w _ _⟩
 show resK P fn tmps R _
 rw [he, ←setcell_on h hw]
 exact hk _ this.1 this.2 (by simp [setH])
end Go.Proofs.YtkaikaodhegmhaaGreat.E
namespace Go.Proofs.YtkaikaodhegmhaaGreat.E
open Go
set_option linter.unusedVariables false
theorem zeroB (m:Nat):(Builtin.zeroCells (Value.int .u8 0).cells m).toList=bvs (List.replicate m 0):=by
 apply List.ext_getElem
 ·simp [Builtin.zeroCells,bvs,Value.cells]
 intro i h1 h2
 simp [Builtin.zeroCells,bvs,Value.cells,bv,Nat.mod_one]
section
variable {P :Program} {t tn ty e:TypeId} {i:TypeInfo} {E:List PanicEntry->Heap->Prop}
theorem run_append_room_z (w:World) {kn kq:IntKind} (ht:P.underlying t=some (.slice e)) (htn:P.underlying tn=some (.int kn)) (hi:P.info? e=some i) (hz:i.zero=some (.int .u8 0)) (hs:i.size=1) (hby:i.bytes=1)
  (g o sLen sCap m:Nat) (cur:Array Value) (hg:w.heap[g]? =some (.cells cur e (0,0))) (hm:0<m) (hm2:m<=1000000000)
  (hroom:sLen+m<=sCap) (hfit:o+sLen+m<=cur.size):
  (Builtin.append_ #[t,tn] ty #[.slice (some ⟨g,o,none⟩) sLen sCap,.int kq m]).run P w=
   .ok (.slice (some ⟨g,o,none⟩) (sLen+m) sCap) (w.setRow g (cur.toList.take (o+sLen)++bvs (List.replicate m 0)++cur.toList.drop (o+sLen+m)).toArray):=by
 have hst:=run_storeCells_at P g (o+sLen) e (bvs (List.replicate m 0)) 0 cur w hg (by simp [bvs_len];omega) (bvs_one _)
 simp only [Nat.add_zero,bvs_len,List.length_replicate] at hst
 have hadd:(⟨g,o,none⟩:Addr).add sLen=⟨g,o+sLen,none⟩:=by unfold Addr.add;split<;>simp_all
 have hw:IntKind.i64.wrap (m:Int)=m:=by rw [IntKind.wrap_i64];omega
 have hneg: ¬((m:Int)<0):=by omega
 have h48: ¬(281474976710656<(m:Int)):=by omega
 have hm0: ¬(m=0):=by omega
 simp [Builtin.append_,run_underlying ht,run_underlying htn,sizeOf,typeInfo,zeroValue,hi,hz,hs,hby,asInt,asIntOf,hw,hneg,h48,hm0,hroom,hadd,zeroB,hst]
theorem appz_i {s:TH} {a:Option Addr} {n c m:Nat} {kn:IntKind} {l:List UInt8} {τ:Nat} {K:Value->Heap->Prop}
  (ht:P.underlying t=some (.slice e)) (htn:P.underlying tn=some (.int kn)) (hi':(P.info? e).map (fun i=>(i.zero,i.size,i.bytes))=some (some (.int .u8 0),1,1))
  (hO:Own s a n c e 1 (bvs l) τ) (ha:a≠none) (hm:0<m) (hb:n<=1000000000/\m<=1000000000)
  (hk: ∀(s':TH) (a':Option Addr) (c':Nat),Own s' a' (n+m) c' e 1 (bvs (l++List.replicate m 0)) τ->OnA a s s'->K (.slice a' (n+m) c') s'.h):
  semW P (Builtin.append_ #[t,tn] ty #[.slice a n c,.int .i64 (m:Int)]) E s.h K:=.mk fun w hw=>by
 obtain ⟨i,hi,hz,hs,hby⟩:=info_of hi'
 have hlen:(bvs (l++List.replicate m 0)).length=(n+m)*1:=by
  have:=hO.1;rw [bvs_len] at this ⊢;rw [List.length_append,List.length_replicate];omega
 have hxl:=hO.1
 rw [bvs_len] at hxl
 have happ:bvs (l++List.replicate m 0)=bvs l++bvs (List.replicate m 0):=by simp [bvs]
 rcases hO.2 with ⟨rfl,rfl,rfl⟩|⟨g,o,L,rfl,hB,hnc,hcm,hcs,htake⟩
 ·exact absurd rfl ha
 ·by_cases hroom:n+m<=c
  ·have hr:=run_append_room_z (P:=P) (ty:=ty) (kq:=.i64) w ht htn hi hz hs hby g o n c m L.toArray (by rw [hw];exact hB.get) hm hb.2 hroom (by simp;omega)
   rw [hr]
   have hset:(w.setRow g (L.take (o+n)++bvs (List.replicate m 0)++L.drop (o+n+m)).toArray).heap[g]? =some (.cells (L.take (o+n)++bvs (List.replicate m 0)++L.drop (o+n+m)).toArray e (0,0)):=setRow_heap w g L.toArray _ e _ (by rw [hw];exact hB.get)
   have hK:=hk ⟨(w.setRow g (L.take (o+n)++bvs (List.replicate m 0)++L.drop (o+n+m)).toArray).heap,s.g⟩ (some ⟨g,o,none⟩) c ⟨hlen,.inr ⟨g,o,_,rfl,⟨hset,hB.tag⟩,hroom,hcm,?_,?_⟩⟩ ⟨by simp [←hw],fun _ _=>rfl,fun j hj hn=>?_⟩
   ·exact ⟨hK,rfl,rfl,rfl⟩
   ·simp only [List.length_append,List.length_take,List.length_drop,bvs_len,List.length_replicate];omega
   ·have e1:(L.take (o+n)++bvs (List.replicate m 0)++L.drop (o+n+m)).drop o=(L.drop o).take n++bvs (List.replicate m 0)++L.drop (o+n+m):=by
     rw [List.append_assoc,List.drop_append_of_le_length (by simp;omega),List.drop_take, ←List.append_assoc]
     congr 2;congr 1;omega
    rw [Nat.mul_one] at htake
    rw [e1,htake, ←happ, ←hlen];exact List.take_left
   ·show (w.setRow g _).heap[j]? =_
    rw [setRow_other w g j _ (fun e=>hn (by simp [e])),hw]
  ·have hold:(Builtin.firstCells i.size n (.slice (some ⟨g,o,none⟩) n c)).run P w.drew=.ok (bvs l).toArray w.drew:=by
    have hcl:=hO.sl.cells w.drew (by exact hw)
    exact run_firstCells_some (P:=P) w.drew i.size n ⟨g,o,none⟩ n c (bvs l) (by rw [hs];exact hO.1) hcl
   have hr:=Go.Lib.run_append_grow_zeros (P:=P) w t tn ty e i (.int .u8 0) .i64 kn ht htn hi hz (some ⟨g,o,none⟩) n c (bvs l) hold m hm (by omega) (by omega) (by omega) (by rw [hby];omega) (growslice_fits (by omega) (by rw [hby];omega))
   rw [hr]
   have hge:=grownCap_ge w (n+m) c e
   have hcm':grownCap w (n+m) c e<=maxLen:=grownCap_le_maxLen w (n+m) c e (by unfold maxLen;omega)
   have hL:(bvs l).toArray++Builtin.zeroCells (Value.int .u8 0).cells m++Builtin.zeroCells (Value.int .u8 0).cells (grownCap w (n+m) c e - (n+m))=(bvs (l++List.replicate m 0)++bvs (List.replicate (grownCap w (n+m) c e - (n+m)) 0)).toArray:=by
    apply Array.toList_inj.1
    simp only [Array.toList_append,zeroB,happ]
   rw [hL]
   refine ⟨?_,rfl,rfl,rfl⟩
   have hh:(w.drew.alloc (.cells (bvs (l++List.replicate m 0)++bvs (List.replicate (grownCap w (n+m) c e - (n+m)) 0)).toArray e)).heap=s.h.push (.cells (bvs (l++List.replicate m 0)++bvs (List.replicate (grownCap w (n+m) c e - (n+m)) 0)).toArray e):=by rw [←hw];rfl
   rw [hh]
   rw [show w.heap.size=s.h.size by rw [hw]]
   refine hk ⟨s.h.push (.cells (bvs (l++List.replicate m 0)++bvs (List.replicate (grownCap w (n+m) c e - (n+m)) 0)).toArray e),upd s.g s.h.size τ⟩ _ _ ⟨hlen,.inr ⟨s.h.size,0,_,rfl,⟨Array.getElem?_push_size ..,by simp [upd]⟩,hge,hcm',?_,?_⟩⟩ ?_
   ·rw [List.length_append,hlen,bvs_len,List.length_replicate];omega
   ·rw [←hlen,List.drop_zero];exact List.take_left
   ·exact Chg.mono (pushed s _ τ) fun _ _ h=>by simp at h
end
end Go.Proofs.YtkaikaodhegmhaaGreat.E
namespace Go.Proofs.YtkaikaodhegmhaaGreat.E
open Go
set_option linter.unusedVariables false
section
variable {P :Program} {t tn ty e:TypeId} {E:List PanicEntry->Heap->Prop}
theorem freezeH_get {H:Heap} {r n:Nat} {c:Array Value} {e:TypeId} (h:H[r]? =some (.cells c e (0,0))):(freezeH H ⟨r,n,none⟩ 1)[r]? =some (.cells c e (n,n+1)):=by
 unfold freezeH World.freeze
 rw [if_neg (by decide)]
 show (H.modify r _)[r]? =_
 rw [modify_get,if_pos rfl,h]
 rfl
theorem freezeH_other {H:Heap} {r n j:Nat} (h:j≠r):(freezeH H ⟨r,n,none⟩ 1)[j]? =H[j]? :=by
 unfold freezeH World.freeze
 rw [if_neg (by decide)]
 show (H.modify r _)[j]? =_
 rw [modify_get,if_neg (fun e=>h e.symm)]
theorem freezeH_size {H:Heap} {r n:Nat}:(freezeH H ⟨r,n,none⟩ 1).size=H.size:=by
 unfold freezeH World.freeze
 rw [if_neg (by decide)]
 show (H.modify r _).size=_
 simp
theorem conv_lit {s:TH} {r n τ:Nat} {l:List Value} {K:Value->Heap->Prop} (ht:P.underlying t=some (.slice e)) (he:P.underlying e=some (.int .u8)) (h:Blk s r l e τ) (hn:l.length=n)
  (hk: ∀s':TH,Sl s' (some ⟨r,0,none⟩) l τ->On r s s'->s.h.size=s'.h.size->K (.slice (some ⟨r,0,none⟩) n n) s'.h):
  semW P (convert t t (.slice (some ⟨r,0,none⟩) n n)) E s.h K:=.mk fun w hw=>by
 have hsh:w.shape? r=some (e,n):=by rw [shape_eq,hw];simp [shapeH,h.get,hn]
 have hrun:(convert t t (.slice (some ⟨r,0,none⟩) n n)).run P w=.ok (.slice (some ⟨r,0,none⟩) n n) (w.freeze ⟨r,n,none⟩ 1):=by
  simp [convert,run_underlying ht,run_underlying he,markStringish,hsh]
 rw [hrun]
 have hg:=freezeH_get (n:=n) h.get
 refine ⟨?_,?_⟩
 ·show K _ (w.freeze ⟨r,n,none⟩ 1).heap
  rw [freeze_eq,hw]
  refine hk ⟨freezeH s.h ⟨r,n,none⟩ 1,s.g⟩ (.inr ⟨r,0,rfl,by show r<(freezeH _ _ _).size;rw [freezeH_size];exact h.lt,h.tag,fun j v hv=>?_⟩) ⟨by show _<=(freezeH _ _ _).size;rw [freezeH_size];exact Nat.le_refl _,fun _ _=>rfl,fun j hj hne=>freezeH_other hne⟩ (by show _=(freezeH _ _ _).size;rw [freezeH_size])
  show cellH (freezeH s.h ⟨r,n,none⟩ 1) ⟨r,0+j,none⟩=some v
  simp [cellH,hg,hv]
 ·unfold World.freeze
  split<;>exact ⟨rfl,rfl,rfl⟩
theorem new_own {s:TH} {L:List UInt8} {rest:Nat} {e τ cap:Nat} (hcap:L.length+rest=cap) (hc:cap<=maxLen):
  Own ⟨s.h.push (.cells (bvs L++bvs (List.replicate rest 0)).toArray e),upd s.g s.h.size τ⟩ (some ⟨s.h.size,0,none⟩) L.length cap e 1 (bvs L) τ:=by
 refine ⟨by rw [bvs_len];omega,.inr ⟨s.h.size,0,_,rfl,⟨Array.getElem?_push_size ..,by simp [upd]⟩,by omega,hc,?_,?_⟩⟩
 ·rw [List.length_append,bvs_len,bvs_len,List.length_replicate];omega
 ·rw [List.drop_zero,show L.length*1=(bvs L).length by rw [bvs_len];omega];exact List.take_left
theorem appz_g {s:TH} {a:Addr} {n m:Nat} {kn:IntKind} {l:List UInt8} {τ:Nat} (τ':Nat) {K:Value->Heap->Prop}
  (ht:P.underlying t=some (.slice e)) (htn:P.underlying tn=some (.int kn)) (hi':(P.info? e).map (fun i=>(i.zero,i.size,i.bytes))=some (some (.int .u8 0),1,1))
  (hx:Sl s (some a) (bvs l) τ) (hl:l.length=n) (hm:0<m) (hb:n<=1000000000/\m<=1000000000)
  (hk: ∀(s':TH) (a':Option Addr) (c':Nat),Own s' a' (n+m) c' e 1 (bvs (l++List.replicate m 0)) τ'->Ch [] s s'->a'≠none->K (.slice a' (n+m) c') s'.h):
  semW P (Builtin.append_ #[t,tn] ty #[.slice (some a) n n,.int .i64 (m:Int)]) E s.h K:=.mk fun w hw=>by
 obtain ⟨i,hi,hz,hs,hby⟩:=info_of hi'
 have hold:(Builtin.firstCells i.size n (.slice (some a) n n)).run P w.drew=.ok (bvs l).toArray w.drew:=
  run_firstCells_some (P:=P) w.drew i.size n a n n (bvs l) (by rw [hs,bvs_len];omega) (hx.cells w.drew (by exact hw))
 have hr:=Go.Lib.run_append_grow_zeros (P:=P) w t tn ty e i (.int .u8 0) .i64 kn ht htn hi hz (some a) n n (bvs l) hold m hm (by omega) (by omega) (by omega) (by rw [hby];omega) (growslice_fits (by omega) (by rw [hby];omega))
 rw [hr]
 have hge:=grownCap_ge w (n+m) n e
 have hcm:grownCap w (n+m) n e<=maxLen:=grownCap_le_maxLen w (n+m) n e (by unfold maxLen;omega)
 have hL:(bvs l).toArray++Builtin.zeroCells (Value.int .u8 0).cells m++Builtin.zeroCells (Value.int .u8 0).cells (grownCap w (n+m) n e - (n+m))=(bvs (l++List.replicate m 0)++bvs (List.replicate (grownCap w (n+m) n e - (n+m)) 0)).toArray:=by
  apply Array.toList_inj.1
  simp only [Array.toList_append,zeroB]
  simp [bvs]
 rw [hL]
 refine ⟨?_,rfl,rfl,rfl⟩
 have hh:(w.drew.alloc (.cells (bvs (l++List.replicate m 0)++bvs (List.replicate (grownCap w (n+m) n e - (n+m)) 0)).toArray e)).heap=s.h.push (.cells (bvs (l++List.replicate m 0)++bvs (List.replicate (grownCap w (n+m) n e - (n+m)) 0)).toArray e):=by rw [←hw];rfl
 rw [hh,show w.heap.size=s.h.size by rw [hw]]
 have ho:=new_own (s:=s) (L:=l++List.replicate m 0) (rest:=grownCap w (n+m) n e - (n+m)) (e:=e) (τ:=τ') (cap:=grownCap w (n+m) n e) (by simp;omega) hcm
 rw [show (l++List.replicate m (0:UInt8)).length=n+m by simp [hl]] at ho
 exact hk _ _ _ ho (pushed s _ τ') (by simp)
theorem app_g {s:TH} {a b:Addr} {n m mc:Nat} {l x:List UInt8} {τ τx:Nat} (τ':Nat) {K:Value->Heap->Prop}
  (ht:P.underlying t=some (.slice e)) (hi':(P.info? e).map (fun i=>(i.zero,i.size,i.bytes))=some (some (.int .u8 0),1,1))
  (hx:Sl s (some a) (bvs l) τ) (hl:l.length=n) (hy:Sl s (some b) (bvs x) τx) (hxl:x.length=m) (hm:0<m) (hb:n<=1000000000/\m<=1000000000)
  (hk: ∀(s':TH) (a':Option Addr) (c':Nat),Own s' a' (n+m) c' e 1 (bvs (l++x)) τ'->Ch [] s s'->a'≠none->K (.slice a' (n+m) c') s'.h):
  semW P (Builtin.append_ #[t,t] ty #[.slice (some a) n n,.slice (some b) m mc]) E s.h K:=.mk fun w hw=>by
 obtain ⟨i,hi,hz,hs,hby⟩:=info_of hi'
 have hr:=run_append_grow (P:=P) w t ty e i (.int .u8 0) ht hi hz a n n (bvs l) (by rw [hs,bvs_len];omega) (hx.cells w hw) b m mc (bvs x) (by rw [hs,bvs_len];omega) (hy.cells w hw) (by omega) (by omega) (growslice_fits (by omega) (by rw [hby];omega))
 rw [hr]
 have hge:=grownCap_ge w (n+m) n e
 have hcm:grownCap w (n+m) n e<=maxLen:=grownCap_le_maxLen w (n+m) n e (by unfold maxLen;omega)
 have hL:(bvs l).toArray++(bvs x).toArray++Builtin.zeroCells (Value.int .u8 0).cells (grownCap w (n+m) n e - (n+m))=(bvs (l++x)++bvs (List.replicate (grownCap w (n+m) n e - (n+m)) 0)).toArray:=by
  apply Array.toList_inj.1
  simp only [Array.toList_append,zeroB]
  simp [bvs]
 rw [hL]
 refine ⟨?_,rfl,rfl,rfl⟩
 have hh:(w.drew.alloc (.cells (bvs (l++x)++bvs (List.replicate (grownCap w (n+m) n e - (n+m)) 0)).toArray e)).heap=s.h.push (.cells (bvs (l++x)++bvs (List.replicate (grownCap w (n+m) n e - (n+m)) 0)).toArray e):=by rw [←hw];rfl
 rw [hh,show w.heap.size=s.h.size by rw [hw]]
 have ho:=new_own (s:=s) (L:=l++x) (rest:=grownCap w (n+m) n e - (n+m)) (e:=e) (τ:=τ') (cap:=grownCap w (n+m) n e) (by simp;omega) hcm
 rw [show (l++x).length=n+m by simp [hl,hxl]] at ho
 exact hk _ _ _ ho (pushed s _ τ') (by simp)
end
end Go.Proofs.YtkaikaodhegmhaaGreat.E
namespace Go.Proofs.YtkaikaodhegmhaaGreat.E
open Go
set_option linter.unusedVariables false
section
variable {P :Program} {t t2 ty e:TypeId} {E:List PanicEntry->Heap->Prop}
theorem mid_get {α:Type} (A B:List α) (p:Nat) (hp:p<=A.length) (hB:p+B.length<=A.length) (i:Nat):
  (A.take p++B++A.drop (p+B.length))[i]? =if i<p then A[i]? else if i<p+B.length then B[i - p]? else A[i]? :=by
 have h1:(A.take p).length=p:=by simp;omega
 rw [List.append_assoc,List.getElem?_append,h1]
 by_cases h:i<p
 ·rw [if_pos h,if_pos h,List.getElem?_take,if_pos h]
 ·rw [if_neg h,if_neg h,List.getElem?_append]
  by_cases h2:i<p+B.length
  ·rw [if_pos (by omega),if_pos h2]
  ·rw [if_neg (by omega),if_neg h2,List.getElem?_drop]
   congr 1;omega
theorem copy_gen {s:TH} {a:Addr} {n c p m:Nat} {l x:List UInt8} {τ:Nat} {src:Value} {K:Value->Heap->Prop}
  (ht:P.underlying t=some (.slice e)) (hi':(P.info? e).map (fun i=>(i.zero,i.size,i.bytes))=some (some (.int .u8 0),1,1))
  (hO:Own s (some a) n c e 1 (bvs l) τ) (hp:p<=n) (hlen: ∀w,(Builtin.lenOf src).run P w=.ok m w) (hx:x.length=min m (n - p))
  (hf: ∀w:World,w.heap=s.h->(Builtin.firstCells 1 (min m (n - p)) src).run P w=.ok (bvs x).toArray w)
  (hk: ∀s':TH,Own s' (some a) n c e 1 (bvs (l.take p++x++l.drop (p+x.length))) τ->OnA (some a) s s'->s.h.size=s'.h.size->K (.int .i64 ((min m (n - p):Nat):Int)) s'.h):
  semW P (Builtin.copy_ #[t,t2] ty #[.slice (slO (some a) 1 (p:Int) (c:Int)) (n - p) (c - p),src]) E s.h K:=.mk fun w hw=>by
 obtain ⟨i,hi,hz,hs,hby⟩:=info_of hi'
 have hln:l.length=n:=by have:=hO.1;rw [bvs_len] at this;omega
 rcases hO.2 with ⟨h0,_⟩|⟨g,o,L,h2,h3,h4,h5,h6,h7⟩
 ·cases h0
 cases h2
 have hfw:=hf w hw
 by_cases hx0:x=[]
 ·subst hx0
  have hm0:min m (n - p)=0:=by simpa using hx.symm
  rw [hm0] at hfw hk
  have hr:(Builtin.copy_ #[t,t2] ty #[.slice (slO (some ⟨g,o,none⟩) 1 (p:Int) (c:Int)) (n - p) (c - p),src]).run P w=.ok (.int .i64 ((0:Nat):Int)) w:=by
   simp [slO,Builtin.copy_,run_underlying ht,sizeOf,typeInfo,hi,hs,hlen,hm0,hfw,bvs,storeCells,goInt]
  rw [hr]
  refine ⟨?_,Like.refl w⟩
  rw [hw]
  exact hk s (by simpa using hO) ⟨Nat.le_refl _,fun _ _=>rfl,fun _ _ _=>rfl⟩ rfl
 ·have hxl:0<x.length:=List.length_pos_iff.2 hx0
  have hsl:slO (some ⟨g,o,none⟩) 1 (p:Int) (c:Int)=some ⟨g,o+p,none⟩:=by rw [slA_mk,if_neg (by omega)];simp
  have hst:=run_storeCells_at P g (o+p) e (bvs x) 0 L.toArray w (by rw [hw];exact h3.get) (by simp [bvs_len];omega) (bvs_one _)
  simp only [Nat.add_zero,bvs_len] at hst
  have hr:(Builtin.copy_ #[t,t2] ty #[.slice (slO (some ⟨g,o,none⟩) 1 (p:Int) (c:Int)) (n - p) (c - p),src]).run P w=.ok (.int .i64 ((min m (n - p):Nat):Int)) (w.setRow g (L.take (o+p)++bvs x++L.drop (o+p+x.length)).toArray):=by
   rw [hsl]
   simp [Builtin.copy_,run_underlying ht,sizeOf,typeInfo,hi,hs,hlen,hfw,hst,goInt]
  rw [hr]
  have hset:(w.setRow g (L.take (o+p)++bvs x++L.drop (o+p+x.length)).toArray).heap[g]? =some (.cells (L.take (o+p)++bvs x++L.drop (o+p+x.length)).toArray e (0,0)):=setRow_heap w g L.toArray _ e _ (by rw [hw];exact h3.get)
  have hK:=hk ⟨(w.setRow g (L.take (o+p)++bvs x++L.drop (o+p+x.length)).toArray).heap,s.g⟩ ⟨?_,.inr ⟨g,o,_,rfl,⟨hset,h3.tag⟩,h4,h5,?_,?_⟩⟩ ⟨by simp [←hw],fun _ _=>rfl,fun j hj hn=>?_⟩ (by simp [←hw])
  ·exact ⟨hK,rfl,rfl,rfl⟩
  ·rw [bvs_len];simp;omega
  ·simp only [List.length_append,List.length_take,List.length_drop,bvs_len];omega
  ·apply List.ext_getElem?
   intro j
   have hLl: ∀q,q<n->L[o+q]? =(bvs l)[q]? :=fun q hq=>by rw [←h7,List.getElem?_take,if_pos (by omega),List.getElem?_drop]
   have hb:bvs (l.take p++x++l.drop (p+x.length))=(bvs l).take p++bvs x++(bvs l).drop (p+(bvs x).length):=by simp [bvs,List.map_take,List.map_drop]
   rw [hb,mid_get _ _ _ (by rw [bvs_len];omega) (by rw [bvs_len,bvs_len];omega),List.getElem?_take]
   have hmid:=mid_get L (bvs x) (o+p) (by omega) (by rw [bvs_len];omega) (o+j)
   rw [bvs_len] at hmid ⊢
   by_cases hj:j<n*1
   ·rw [if_pos hj,List.getElem?_drop,hmid]
    by_cases h8:j<p
    ·rw [if_pos (by omega),if_pos h8];exact hLl j (by omega)
    ·rw [if_neg (by omega),if_neg h8]
     by_cases h9:j<p+x.length
     ·rw [if_pos (by omega),if_pos h9];congr 1;omega
     ·rw [if_neg (by omega),if_neg h9];exact hLl j (by omega)
   ·rw [if_neg hj,if_neg (by omega),if_neg (by omega)]
    exact (List.getElem?_eq_none (by rw [bvs_len];omega)).symm
  ·show (w.setRow g _).heap[j]? =_
   rw [setRow_other w g j _ (fun e=>hn (by simp [e])),hw]
theorem copy_os {s:TH} {a:Addr} {n c p:Nat} {l:List UInt8} {τ:Nat} (d:Array UInt8) {K:Value->Heap->Prop}
  (ht:P.underlying t=some (.slice e)) (hi':(P.info? e).map (fun i=>(i.zero,i.size,i.bytes))=some (some (.int .u8 0),1,1))
  (hO:Own s (some a) n c e 1 (bvs l) τ) (hp:p<=n)
  (hk: ∀s':TH,Own s' (some a) n c e 1 (bvs (l.take p++d.toList.take (n - p)++l.drop (p+(d.toList.take (n - p)).length))) τ->OnA (some a) s s'->s.h.size=s'.h.size->K (.int .i64 ((min d.size (n - p):Nat):Int)) s'.h):
  semW P (Builtin.copy_ #[t,t2] ty #[.slice (slO (some a) 1 (p:Int) (c:Int)) (n - p) (c - p),.string ⟨d⟩]) E s.h K:=by
 refine copy_gen (m:=d.size) (x:=d.toList.take (n - p)) ht hi' hO hp (fun w=>rfl) (by simp;omega) (fun w hw=>?_) hk
 simp only [Builtin.firstCells]
 show Result.ok _ w=_
 congr 1
 apply Array.toList_inj.1
 simp only [bvs,Array.toList_map,ByteArray.data_extract,Array.toList_extract]
 apply List.ext_getElem?
 intro j
 simp [List.getElem?_take]
 by_cases h:j<d.size/\j<n - p
 ·simp [h.1,h.2];exact ⟨by omega,rfl⟩
 ·by_cases h1:j<n - p
  ·have: ¬j<d.size:=fun h2=>h ⟨h2,h1⟩
   simp [h1,this]
  ·simp [h1];omega
end
end Go.Proofs.YtkaikaodhegmhaaGreat.E
namespace Go.Proofs.YtkaikaodhegmhaaGreat.E
open Go
set_option linter.unusedVariables false
set_option linter.unusedSimpArgs false
section
variable {s :TH} {a:Addr} {τ:Nat} {k:Value->Prop}
theorem ld_iv {l:List Int} {n:Int} (h:Sl s (some a) (ivs l) τ) (h0:0<=n) (h1:n<l.length) (hk: ∀x:Int,l[n.toNat]? =some x->k (.int .i64 x)):ld s.h (a.add (n.toNat*1)) k:=by
 have h2:n.toNat<l.length:=by omega
 refine ld_sl h (v:=.int .i64 l[n.toNat]) ?_ (hk _ (by simp [h2]))
 rw [Nat.mul_one];simp [ivs,h2]
end
structure Rp (α:Type) where
 k:Nat
 r:TH->Nat->α->List Value->Prop
 len: ∀ {s τ x l},r s τ x l->l.length=k
 one: ∀ {s τ x l},r s τ x l->∀u∈l,u.oneCell'=true
 mv: ∀ {s s':TH} {τ x l} {B:Nat->Prop},r s τ x l->Chg B s s'->(∀j,j<s.h.size->s.g j=τ->¬B j)->r s' τ x l
def RL {α:Type} (R:Rp α) (s:TH) (τ:Nat):List α->List Value->Prop
 |[],l=>l=[]
 |x::xs,l=>∃c r,l=c++r/\R.r s τ x c/\RL R s τ xs r
section
variable {α :Type} {R:Rp α} {s s':TH} {τ:Nat}
theorem RL.mv {B:Nat->Prop}: ∀ {xs:List α} {l:List Value},RL R s τ xs l->Chg B s s'->(∀j,j<s.h.size->s.g j=τ->¬B j)->RL R s' τ xs l
 |[],l,h,c,hn=>h
 |x::xs,l,⟨c0,r,h1,h2,h3⟩,c,hn=>⟨c0,r,h1,R.mv h2 c hn,RL.mv h3 c hn⟩
theorem RL.len : ∀ {xs:List α} {l:List Value},RL R s τ xs l->l.length=xs.length*R.k
 |[],l,h=>by rw [show l=[] from h];simp
 |x::xs,l,⟨c0,r,h1,h2,h3⟩=>by rw [h1,List.length_append,R.len h2,RL.len h3,List.length_cons,Nat.add_mul];omega
theorem RL.one : ∀ {xs:List α} {l:List Value},RL R s τ xs l->∀u∈l,u.oneCell'=true
 |[],l,h,u,hu=>by rw [show l=[] from h] at hu;cases hu
 |x::xs,l,⟨c0,r,h1,h2,h3⟩,u,hu=>by
  rw [h1] at hu
  rcases List.mem_append.1 hu with hu|hu
  ·exact R.one h2 u hu
  exact RL.one h3 u hu
theorem RL.app : ∀ {xs ys:List α} {l m:List Value},RL R s τ xs l->RL R s τ ys m->RL R s τ (xs++ys) (l++m)
 |[],ys,l,m,h,k=>by rw [show l=[] from h];exact k
 |x::xs,ys,l,m,⟨c0,r,h1,h2,h3⟩,k=>⟨c0,r++m,by rw [h1,List.append_assoc],h2,RL.app h3 k⟩
theorem RL.get : ∀ {xs:List α} {l:List Value} {i:Nat} {x:α},RL R s τ xs l->xs[i]? =some x->∃c,R.r s τ x c/\∀j,j<R.k->l[i*R.k+j]? =c[j]?
 |[],l,i,x,h,hx=>by simp at hx
 |y::xs,l,0,x,⟨c0,r,h1,h2,h3⟩,hx=>by
  simp at hx;subst hx
  exact ⟨c0,h2,fun j hj=>by rw [h1,Nat.zero_mul,Nat.zero_add,List.getElem?_append_left (by rw [R.len h2];exact hj)]⟩
 |y::xs,l,i+1,x,⟨c0,r,h1,h2,h3⟩,hx=>by
  obtain ⟨c,h4,h5⟩:=RL.get h3 (by simpa using hx)
  refine ⟨c,h4,fun j hj=>?_⟩
  rw [h1,List.getElem?_append_right (by rw [R.len h2,Nat.add_mul];omega),R.len h2, ←h5 j hj]
  congr 1;rw [Nat.add_mul];omega
theorem RL.take : ∀ {xs:List α} {l:List Value} (i:Nat),RL R s τ xs l->RL R s τ (xs.take i) (l.take (i*R.k))
 |_,_,0,_=>by simp [RL]
 |[],l,i+1,h=>by rw [show l=[] from h];simp [RL]
 |x::xs,l,i+1,⟨c0,r,h1,h2,h3⟩=>by
  refine ⟨c0,r.take (i*R.k),?_,h2,RL.take i h3⟩
  rw [h1,Nat.add_mul,Nat.one_mul,List.take_append,R.len h2,List.take_of_length_le (by rw [R.len h2];omega)]
  congr 2;omega
theorem RL.drop : ∀ {xs:List α} {l:List Value} (i:Nat),RL R s τ xs l->RL R s τ (xs.drop i) (l.drop (i*R.k))
 |_,_,0,h=>by simpa using h
 |[],l,i+1,h=>by rw [show l=[] from h];simp [RL]
 |x::xs,l,i+1,⟨c0,r,h1,h2,h3⟩=>by
  have e:List.drop (i*R.k+R.k) c0=[]:=List.drop_eq_nil_iff.2 (by rw [R.len h2];omega)
  rw [h1,Nat.add_mul,Nat.one_mul,List.drop_append,R.len h2,e,List.nil_append,List.drop_succ_cons,show i*R.k+R.k - R.k=i*R.k by omega]
  exact RL.drop i h3
theorem RL.all {Q:α->Prop} (hQ: ∀ {x c},R.r s τ x c->Q x): ∀ {xs:List α} {l:List Value},RL R s τ xs l->∀x∈xs,Q x
 |[],l,h,x,hx=>by cases hx
 |y::xs,l,⟨c0,r,h1,h2,h3⟩,x,hx=>by
  rcases List.mem_cons.1 hx with rfl|hx
  ·exact hQ h2
  exact RL.all hQ h3 x hx
end
end Go.Proofs.YtkaikaodhegmhaaGreat.E
namespace Go.Proofs.YtkaikaodhegmhaaGreat.E
open Go
set_option linter.unusedVariables false
set_option linter.unusedSimpArgs false
theorem fresh6 (s:TH) (a b c d e f:Nat): ∃M,(∀j,j<s.h.size->s.g j<M)/\10<=M/\a<M/\b<M/\c<M/\d<M/\e<M/\f<M:=by
 have h: ∀n,∃m,∀j,j<n->s.g j<m:=fun n=>by
  induction n with
  |zero=>exact ⟨0,fun j hj=>by omega⟩
  |succ n ih=>
   obtain ⟨m,hm⟩:=ih
   refine ⟨m+s.g n+1,fun j hj=>?_⟩
   by_cases e:j=n
   ·subst e;omega
   have:=hm j (by omega);omega
 obtain ⟨m,hm⟩:=h s.h.size
 exact ⟨m+a+b+c+d+e+f+10,fun j hj=>by have:=hm j hj;omega,by omega,by omega,by omega,by omega,by omega,by omega,by omega⟩
theorem Ch.fr {T T':List Nat} {a b c:TH} {M:Nat} (h:Ch T a b) (k:Ch T' b c) (hM: ∀j,j<a.h.size->a.g j<M) (hT: ∀x∈T',x∈T∨M<=x):Ch T a c:=
 Chg.trans h k fun j hj hB=>by
  have hB:b.g j∈T':=hB
  rw [h.tag j hj] at hB
  rcases hT _ hB with h1|h1
  ·exact h1
  have:=hM j hj;omega
theorem Ch.app {T T':List Nat} {a b c:TH} (h:Ch T a b) (k:Ch T' b c):Ch (T++T') a c:=
 Chg.trans (h.less (T':=T++T') fun x hx=>List.mem_append_left _ hx) k fun j hj hB=>by
  have hB:b.g j∈T':=hB
  rw [h.tag j hj] at hB
  exact List.mem_append_right _ hB
def remark (s:TH) (μ τ:Nat):TH:=⟨s.h,fun j=>if s.g j=μ then τ else s.g j⟩
theorem ret_t' {Q:Value->TH->Prop} {v:Value} {s s':TH} (hs:s'.h=s.h) (h:Q v s'):RT Q (.returned v) s.h:=⟨v,s',rfl,hs,h⟩
theorem remark_ch {T:List Nat} {s s':TH} {M μ τ:Nat} (c:Ch T s s') (hM: ∀j,j<s.h.size->s.g j<M) (hμ:M<=μ):Ch T s (remark s' μ τ):=
 ⟨c.size,fun j hj=>by
  have h1:=c.tag j hj
  have h2:=hM j hj
  show (if s'.g j=μ then τ else s'.g j)=s.g j
  rw [h1,if_neg (by omega)],c.get⟩
theorem remark_chg {s:TH} {μ τ:Nat} {σ:Nat} (h:σ≠μ): ∀j,s.g j=σ->(remark s μ τ).g j=σ:=fun j hj=>by
 show (if s.g j=μ then τ else s.g j)=σ
 rw [hj,if_neg h]
theorem remark_to {s:TH} {μ τ:Nat}: ∀j,s.g j=μ->(remark s μ τ).g j=τ:=fun j hj=>by
 show (if s.g j=μ then τ else s.g j)=τ
 rw [if_pos hj]
theorem Own.remark {s:TH} {a:Option Addr} {n c e k:Nat} {xs:List Value} {μ τ:Nat} (h:Own s a n c e k xs μ):Own (remark s μ τ) a n c e k xs τ:=by
 refine ⟨h.1,h.2.imp id ?_⟩
 rintro ⟨g,o,L,h1,h2,h3⟩
 exact ⟨g,o,L,h1,⟨h2.get,remark_to g h2.tag⟩,h3⟩
theorem Sl.remark {s:TH} {a:Option Addr} {l:List Value} {μ τ:Nat} (h:Sl s a l μ):Sl (remark s μ τ) a l τ:=by
 refine h.imp id ?_
 rintro ⟨g,o,h1,h2,h3,h4⟩
 exact ⟨g,o,h1,h2,remark_to g h3,h4⟩
theorem Sl.keep {s:TH} {a:Option Addr} {l:List Value} {σ μ τ:Nat} (h:Sl s a l σ) (hn:σ≠μ):Sl (E.remark s μ τ) a l σ:=by
 refine h.imp id ?_
 rintro ⟨g,o,h1,h2,h3,h4⟩
 exact ⟨g,o,h1,h2,remark_chg hn g h3,h4⟩
theorem Own.keep {s:TH} {a:Option Addr} {n c e k:Nat} {xs:List Value} {σ μ τ:Nat} (h:Own s a n c e k xs σ) (hn:σ≠μ):Own (E.remark s μ τ) a n c e k xs σ:=by
 refine ⟨h.1,h.2.imp id ?_⟩
 rintro ⟨g,o,L,h1,h2,h3⟩
 exact ⟨g,o,L,h1,⟨h2.get,remark_chg hn g h2.tag⟩,h3⟩
theorem Blk.remark {s:TH} {r:Nat} {l:List Value} {t μ τ:Nat} (h:Blk s r l t μ):Blk (remark s μ τ) r l t τ:=⟨h.get,remark_to r h.tag⟩
theorem Blk.keep {s:TH} {r:Nat} {l:List Value} {t σ μ τ:Nat} (h:Blk s r l t σ) (hn:σ≠μ):Blk (E.remark s μ τ) r l t σ:=⟨h.get,remark_chg hn r h.tag⟩
theorem MapK.remark {κ:Type} {kf:κ->Value} {s:TH} {r:Nat} {m:List (κ×Value)} {μ τ:Nat} (h:MapK kf s r m μ):MapK kf (remark s μ τ) r m τ:=⟨h.get,remark_to r h.tag,h.nd⟩
theorem MapK.keep {κ:Type} {kf:κ->Value} {s:TH} {r:Nat} {m:List (κ×Value)} {σ μ τ:Nat} (h:MapK kf s r m σ) (hn:σ≠μ):MapK kf (E.remark s μ τ) r m σ:=⟨h.get,remark_chg hn r h.tag,h.nd⟩
theorem Sl.len0 {s:TH} {l:List Value} {τ:Nat} (h:Sl s none l τ):l=[]:=by
 rcases h with h|⟨g,o,h1,_⟩
 ·exact h
 cases h1
theorem st_iv {s:TH} {a:Addr} {n c e τ:Nat} {L:List Int} {i x:Int} {K:Heap->Prop} (h:Own s (some a) n c e 1 (ivs L) τ) (h0:0<=i) (h1:i<n)
  (hk: ∀s':TH,Own s' (some a) n c e 1 (ivs (L.set i.toNat x)) τ->Ch [τ] s s'->s.h.size=s'.h.size->K s'.h):st s.h (a.add (i.toNat*1)) (.int .i64 x) K:=
 Own.st h rfl (by omega) fun s' h2 h3 h4=>hk s' (by rw [Nat.mul_one] at h2;unfold ivs at*;rw [List.map_set];exact h2) (Ch.on_tag (Ch.refl _ _) h3 h.tagOf (by simp)) h4
section
variable {P :Program} {t ty e:TypeId} {E:List PanicEntry->Heap->Prop} {s:TH} {a xa:Option Addr} {n c m mc:Nat} {τ τ':Nat} {K:Value->Heap->Prop}
theorem app_iv {xs ys:List Int} (ht:P.underlying t=some (.slice e)) (hi:(P.info? e).map (fun i=>(i.zero,i.size,i.bytes))=some (some (.int .i64 0),1,8))
  (hO:Own s a n c e 1 (ivs xs) τ) (hx:Sl s xa (ivs ys) τ') (hm:ys.length=m) (hb:n+m<=17592186044416)
  (hk: ∀(s':TH) (a':Option Addr) (c':Nat),Own s' a' (n+m) c' e 1 (ivs (xs++ys)) τ->Ch [τ] s s'->K (.slice a' (n+m) c') s'.h):
  semW P (Builtin.append_ #[t,t] ty #[.slice a n c,.slice xa m mc]) E s.h K:=
 app_i ht hi rfl hO hx (by rw [ivs_len];omega) (ivs_one _) (fun h=>by subst h;have h0:=congrArg List.length hx.len0;rw [ivs_len,List.length_nil] at h0;omega) (by unfold maxLen;omega)
  fun s' a' c' h1 h2 _=>hk s' a' c' (by rw [ivs_app];exact h1) (h2.ch hO (by simp))
theorem app_i1 {xs:List Int} {r tr:Nat} {x:Int} (ht:P.underlying t=some (.slice e)) (hi:(P.info? e).map (fun i=>(i.zero,i.size,i.bytes))=some (some (.int .i64 0),1,8))
  (hO:Own s a n c e 1 (ivs xs) τ) (hx:Blk s r [.int .i64 x] tr τ') (hb:n+1<=17592186044416)
  (hk: ∀(s':TH) (a':Option Addr) (c':Nat),Own s' a' (n+1) c' e 1 (ivs (xs++[x])) τ->Ch [τ] s s'->K (.slice a' (n+1) c') s'.h):
  semW P (Builtin.append_ #[t,t] ty #[.slice a n c,.slice (some ⟨r,0,none⟩) 1 mc]) E s.h K:=
 app_iv (ys:=[x]) ht hi hO hx.sl rfl hb hk
theorem app_bv {xs ys:List UInt8} (ht:P.underlying t=some (.slice e)) (hi:(P.info? e).map (fun i=>(i.zero,i.size,i.bytes))=some (some (.int .u8 0),1,1))
  (hO:Own s a n c e 1 (bvs xs) τ) (hx:Sl s xa (bvs ys) τ') (hm:ys.length=m) (hb:n+m<=140737488355328)
  (hk: ∀(s':TH) (a':Option Addr) (c':Nat),Own s' a' (n+m) c' e 1 (bvs (xs++ys)) τ->Ch [τ] s s'->K (.slice a' (n+m) c') s'.h):
  semW P (Builtin.append_ #[t,t] ty #[.slice a n c,.slice xa m mc]) E s.h K:=
 app_i ht hi rfl hO hx (by rw [bvs_len];omega) (bvs_one _) (fun h=>by subst h;have h0:=congrArg List.length hx.len0;rw [bvs_len,List.length_nil] at h0;omega) (by unfold maxLen;omega)
  fun s' a' c' h1 h2 _=>hk s' a' c' (by unfold bvs at*;rw [List.map_append];exact h1) (h2.ch hO (by simp))
end
def overlay (l:List UInt8) (p:Nat) (x:List UInt8):List UInt8:=l.take p++x++l.drop (p+x.length)
theorem overlay_len {l:List UInt8} {p:Nat} {x:List UInt8} (h:p+x.length<=l.length):(overlay l p x).length=l.length:=by
 unfold overlay;rw [List.length_append,List.length_append,List.length_take,List.length_drop];omega
theorem copy_sl {P:Program} {t t2 ty e:TypeId} {E:List PanicEntry->Heap->Prop} {s:TH} {a:Addr} {xa:Option Addr} {n c m mc τ τx:Nat} {p:Int} {l x:List UInt8} {K:Value->Heap->Prop}
  (ht:P.underlying t=some (.slice e)) (hi':(P.info? e).map (fun i=>(i.zero,i.size,i.bytes))=some (some (.int .u8 0),1,1))
  (hO:Own s (some a) n c e 1 (bvs l) τ) (hx:Sl s xa (bvs x) τx) (hm:x.length=m) (h0:0<=p) (hp:p.toNat+m<=n)
  (hk: ∀s':TH,Own s' (some a) n c e 1 (bvs (overlay l p.toNat x)) τ->Ch [τ] s s'->s.h.size=s'.h.size->K (.int .i64 (m:Int)) s'.h):
  semW P (Builtin.copy_ #[t,t2] ty #[.slice (slO (some a) 1 p (c:Int)) (n - p.toNat) (c - p.toNat),.slice xa m mc]) E s.h K:=by
 have hmin:min m (n - p.toNat)=m:=by omega
 have h:=copy_gen (P:=P) (t2:=t2) (ty:=ty) (E:=E) (m:=m) (x:=x) (p:=p.toNat) (src:=.slice xa m mc) (K:=K) ht hi' hO (by omega) (fun w=>rfl) (by omega) (fun w hw=>by
  rw [hmin]
  cases xa with
  |none=>
   have:=congrArg List.length hx.len0
   rw [bvs_len,List.length_nil] at this
   obtain rfl:m=0:=by omega
   have:x=[]:=List.eq_nil_of_length_eq_zero hm
   subst this
   rw [run_firstCells_none];rfl
  |some b=>exact run_firstCells_some (P:=P) w 1 m b m mc _ (by rw [bvs_len];omega) fun j u hu=>hx.cells w hw j u hu)
  (fun s' h1 h2 h3=>by rw [hmin];exact hk s' h1 (h2.ch hO (by simp)) h3)
 rw [Int.toNat_of_nonneg h0] at h
 exact h
end Go.Proofs.YtkaikaodhegmhaaGreat.E
