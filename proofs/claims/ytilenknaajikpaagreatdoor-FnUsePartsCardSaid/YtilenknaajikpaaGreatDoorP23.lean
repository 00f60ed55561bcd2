/- Of parts_card; no condition. -/
import Derived.Test.YtilenknaajikpaaGreatDoorP19
import Derived.Test.YtilenknaajikpaaGreatDoorP20
import Derived.Test.YtilenknaajikpaaGreatDoorP21
import Derived.Laws.RangeAny
set_option linter.all false
set_option maxRecDepth 100000
set_option maxHeartbeats 16000000
open Bool renaming and_eq_true->A8,eq_iff_iff->AI,true_and->AP,or_true->AY
open Go renaming Value->An
open Go.Lib renaming cut->A5,idxFuncFrom->AJ,idxFunc->AK,repeatL->Al
open Go.Proofs.Tryz renaming prog->A0,ntmps120->AQ,func120->AX
open Go.RowKit renaming Hid->AF
open Go.Utf8 renaming decode->Am
open Int renaming toNat_natCast->AZ
open List renaming getElem?_eq_getElem->A1,mem_of_getElem?->A2,replicate->A3,mem_singleton->A4,length_cons->A6,getElem?_map->A7,length_map->A9,mem_append->AA,getD_eq_getElem?_getD->AB,length_append->AC,getElem?_append_left->AD,getElem?_eq_some_iff->AE,take_length->AG,length_nil->AH,mem_cons_of_mem->AL,replicate_succ->AM,mem_cons->AN,map_cons->AO,mem_cons_self->AR,map_nil->AS,take_add_one->AU,not_mem_nil->Aa,length_take->Ab,all_eq_true->Ac,append_nil->Ag,range->Ah,tail_cons->Ai,all_map->Ak
open Nat renaming zero_add->AT,le_refl->Ae,min_eq_left->Af,le_trans->Aj
open Option renaming getD_some->Ad
open Option.some renaming injEq->AW,inj->Ao
namespace Go.Proofs.YtilenknaajikpaaGreatDoor
noncomputable section
open Go.RowKit
namespace Aw
variable{k g1 g2:Nat}{α:Type}{wd:World}{w' w2 w:Pl.Sto}{σ:Sg}{a:D}{args:List AV}{f:FuncId}{out:List Ql}{rest:List UInt8}
attribute [local irreducible] ASeq ADraw AWP Loc AStep Fg.PlanF Fg.Flts
def Qu3(n:Qi):Pure A0 169 [dNode n] (dS (Q9 n)):=by
 have hd:=Pm.hid (Q9.eq_def n);have c1:=bNodeOk n;refine kE ?_;refine Qa 0 (h:=?_);cases h1:QL n
 ·rw[h1] at c1
  repeat refine kA ?_
  refine Qb (hx:=?_);rw[hd.out,h1];rfl
 rw[h1] at c1;have hb:=Qe5 h1
 have hL: ∀x∈Qaj n,x.length<=4294967296:=by
  intro x hx;have hdl: ∀k,k<=4294967296->(Pl.dec k).length<=4294967296:=fun k hk=>Aj (Pl.Qdb 10 k (by omega)) (by decide)
  have h1:=hb.kind;have h2:=hb.links;have h3:=hb.size;have h4:=hb.depth;have h5:=hb.many;simp only[Qaj,AN,Aa,or_false] at hx;rcases hx with rfl|rfl|rfl|rfl|rfl|rfl|rfl
  ·exact hdl _ (by omega)
  ·exact hdl _ (by omega)
  ·exact hdl _ (by omega)
  ·exact Aj (Pm.ptrPut_len _) (by decide)
  ·exact hdl _ (by omega)
  ·exact hdl _ (by omega)
  ·decide
 have c5:=(Qqz (Qaj n) (by simp[Qaj,Pm.big]) hL).arg (l:=[tStrs (Qaj n)]);rw[<-Qhj hb] at c5;have hk:=hb.kind;have hk2:=hb.links;have hk3:=hb.size;have hk4:=hb.depth;have hk5:=hb.many;have c2:=QsX [n.kind,n.links,n.size] (by simp);have c3:=Qm3 n.tree;simp only[AO,AS,A6,AH,AT,Nat.reduceAdd] at c2;simp only[Pl.QeN] at c3;simp only[Pl.QeN,AO,AS,List.cons_append,List.nil_append] at c5
 repeat' first|refine kS ?_|(show AWP _ (.region 3 _ _) _ _;refine(Fg.awp_drawF (id:=3) [8,9,12] [7,11,13] ?_))|refine(Fg.aw_fltL (hl:=fun H=>Qd8 Ty.h rfl Ty.h) (k:=?_))|refine(Qh7 [] c2 cK (k:=?_))|refine qD (Qd8 (T:=24) Ty.h rfl Ty.h) ?_|refine(Qi9 Ty.h rfl Ty.h (hcell:=?_) (hb:=?_) (kk:=?_))|refine qD (QeB cK c5 rfl) ?_|refine kU ?_|fail
 ·intro r hr d hd
  simp only[AO,AS,AN,Aa,or_false] at hr;rcases hr with rfl|rfl|rfl<;>(obtain rfl:=A4.1 hd;rfl)
 ·simp
 ·intro r hr d hd
  obtain rfl:=A4.1 hr;obtain rfl:=A4.1 hd;rfl
 ·simp
 ·refine Qb (hx:=?_)
  rw[hd.out,h1,if_pos rfl,<-Qhj hb];rfl
theorem bTreeOf(x y z:List UInt8)(hx:x.length<=2048)(hy:y.length<=2048)(hz:z.length<=2048):
 Pure A0 168 [tStrs [x,y,z]] (.tup [dTree ⟨(QE x).1,((Pl.numGet y).getD 0:Nat),((Pl.numGet z).getD 0:Nat)⟩,dB ((QE x).2&&(Pl.numGet y).isSome&&(Pl.numGet z).isSome)]):=by
 have c1:=bPtrGet x (by omega);have c2:=bNumGet y (by unfold Pm.big;omega);have c3:=bNumGet z (by unfold Pm.big;omega);generalize (Pl.numGet y).getD 0=n1 at*;generalize (Pl.numGet z).getD 0=n2 at*;generalize (Pl.numGet y).isSome=o1 at*;generalize (Pl.numGet z).isSome=o2 at*;generalize QE x=pp at*;obtain⟨⟨p1,p2,p3,p4,p5⟩,okp⟩:=pp;refine kC ?_
 repeat' first|refine kS ?_|refine qS (iy rfl) ?_|refine kU ?_|refine kV ?_ ?_<;>intro q|fail
 all_goals
  (refine Qa 0 (h:=?_);refine QY (hx:=?_))
  simp_all
theorem Qu4(s:List UInt8)(hs:s.length<=Pm.big):Pure A0 112 [dS s] (.tup [dNode (Qq s).1,dB (Qq s).2]):=by
 have c:=Qq0 s hs;rcases Qok s with⟨hr,hok⟩|h0;rotate_left
 ·have hn:AF (Qq s=(Qd,false)):=Pm.hid (Qi0 (.inl (by rw[h0])))
  rw[h0] at c;refine kC ?_
  repeat refine kA ?_
  (refine Qa 0 (h:=?_);refine QY (hx:=?_))
  rw[hn.out];rfl
 by_cases h7:(Qb5 s).1.length=7
 rotate_left
 ·have hn:AF (Qq s=(Qd,false)):=Pm.hid (Qi0 (.inr h7))
  rw[hok] at c;generalize (Qb5 s).1=l at*;clear hr hok;refine kC ?_
  repeat' first|refine kA ?_|refine kV ?_ ?_<;>intro q|fail
  all_goals first|exfalso;simp only[bne_eq_false_iff_eq] at*;omega|((refine Qa 0 (h:=?_);refine QY (hx:=?_));rw[hn.out];rfl)
 rw[hok] at c;generalize (Qb5 s).1=l at*
 match l,h7 with
 |[y1,y2,y3,y4,y5,y6,y7],_=>
 have hl:=Qri hr;have hg:=Pm.hid (QuY hr);have cn: ∀x∈[y1,y2,y3,y4,y5,y6,y7],Pure A0 151 [dS x] (.tup [dI ((Pl.numGet x).getD 0:Nat),dB (Pl.numGet x).isSome]):=fun x hx=>bNumGet x (by have:=hl x hx;unfold Pm.big;omega)
 have c1:=cn y1 (by simp);have c2:=cn y2 (by simp);have c3:=cn y3 (by simp);have hno: ∀P:Prop,(∀p,Qbp s p->P)-> ¬P->Qq s=(Qd,false):=fun P h hn=>QlX fun p hp=>hn (h p hp)
 have f1:AF ((Pl.numGet y1).isSome=false->Qq s=(Qd,false)):=Pm.hid fun e=>hno ((Pl.numGet y1).isSome=true) (fun p hp=>by rw[(QeR hr hp).1];rfl) (by rw[e];simp)
 have f2:AF ((Pl.numGet y2).isSome=false->Qq s=(Qd,false)):=Pm.hid fun e=>hno ((Pl.numGet y2).isSome=true) (fun p hp=>by rw[(QeR hr hp).2.1];rfl) (by rw[e];simp)
 have f3:AF ((Pl.numGet y3).isSome=false->Qq s=(Qd,false)):=Pm.hid fun e=>hno ((Pl.numGet y3).isSome=true) (fun p hp=>by rw[(QeR hr hp).2.2.1];rfl) (by rw[e];simp)
 have f5:AF (((QE y4).2&&(Pl.numGet y5).isSome&&(Pl.numGet y6).isSome)=false->Qq s=(Qd,false)):=Pm.hid fun e=>hno (((QE y4).2&&(Pl.numGet y5).isSome&&(Pl.numGet y6).isSome)=true) (fun p hp=>by rw[(QeR hr hp).2.2.2.1,(QeR hr hp).2.2.2.2.1,(QeR hr hp).2.2.2.2.2];rfl) (by rw[e];simp)
 have cp:=Qu3 (Qbd y1 y2 y3 y4 y5 y6);have t1:=bTreeOf y4 y5 y6 (hl y4 (by simp)) (hl y5 (by simp)) (hl y6 (by simp));obtain⟨N,hN⟩: ∃N,N=Qbd y1 y2 y3 y4 y5 y6:=⟨_,rfl⟩;rw[<-hN] at cp hg;unfold Qbd at hN;clear cn hl hr hok hno;generalize (Pl.numGet y1).isSome=o1 at*;generalize (Pl.numGet y2).isSome=o2 at*;generalize (Pl.numGet y3).isSome=o3 at*;generalize ((QE y4).2&&(Pl.numGet y5).isSome&&(Pl.numGet y6).isSome)=o5 at*;generalize (Pl.numGet y1).getD 0=n1 at*;generalize (Pl.numGet y2).getD 0=n2 at*;generalize (Pl.numGet y3).getD 0=n3 at*;generalize (Pl.numGet y5).getD 0=n5 at*;generalize (Pl.numGet y6).getD 0=n6 at*;generalize (QE y4).1=pp at*;obtain⟨p1,p2,p3,p4,p5⟩:=pp;generalize Q9 N=t at*;generalize Qq s=res at*;subst hN;refine kC ?_
 repeat' first|refine kS ?_|refine stepS2 (QtR Ty.h rfl Ty.h) (k:=?_)|refine qS (Qns Ty.h rfl rfl rfl) ?_|refine kU ?_|fail
 refine Qs (fun m st=> ∃k a b d:Int,((m=3/\k=0/\a=0/\b=0/\d=0)∨(m=2/\o1=true/\k=1/\a=n1/\b=0/\d=0)∨(m=1/\o1=true/\o2=true/\k=2/\a=n1/\b=n2/\d=0)∨(m=0/\o1=true/\o2=true/\o3=true/\k=3/\a=n1/\b=n2/\d=n3))/\
  st=⟨63,[(0,.d (dS s)),(4,.d (tStrs [y1,y2,y3,y4,y5,y6,y7])),(6,.ptr 1 0 0),(25,.rsl 2 0 3),(26,.d (dI 3)),(27,.d (dI k)),(2,.ptr 0 0 0)],
   [.row 0 [.d (dI 0),.d (dI 0),.d (dI 0),.d (dI 0),.d (dI 0),.d (dI 0),.d (dI 0),.d (dI 0),.d (dI 0),.d (dI 0)],.row 0 [.d (dI a),.d (dI b),.d (dI d),.d (dI 0),.d (dI 0),.d (dI 0),.d (dI 0),.d (dI 0),.d (dI 0),.d (dI 0)],.row 0 [.ptr 1 0 0,.ptr 1 0 1,.ptr 1 0 2]]⟩) [0,4,6,25,26,27,2] 3 3 ⟨0,0,0,0,.inl ⟨rfl,rfl,rfl,rfl,rfl⟩,rfl⟩ (round:=?_)
 rintro m st ⟨k,a,b,d,hcase,rfl⟩;rcases hcase with⟨rfl,rfl,rfl,rfl,rfl⟩|⟨rfl,r1,rfl,rfl,rfl,rfl⟩|⟨rfl,r1,r2,rfl,rfl,rfl,rfl⟩|⟨rfl,r1,r2,r3,rfl,rfl,rfl,rfl⟩
 ·repeat' first|refine kS ?_|refine qS (Qdc Ty.h rfl Ty.h rfl rfl rfl (by decide) rfl) ?_|refine qS (QfJ Ty.h rfl Ty.h rfl rfl rfl rfl (by decide) (by decide)) ?_|refine kU ?_|refine kV ?_ ?_<;>intro q|fail
  ·(refine Qa 0 (h:=?_);refine QY (hx:=?_))
   rw[f1.out (by simp_all)];rfl
  ·exact Qn 2 (by decide) ⟨1,n1,0,0,.inr (.inl ⟨rfl,by simp_all,rfl,rfl,rfl,rfl⟩),by simp[keepE,go_sem]⟩
 ·repeat' first|refine kS ?_|refine qS (Qdc Ty.h rfl Ty.h rfl rfl rfl (by decide) rfl) ?_|refine qS (QfJ Ty.h rfl Ty.h rfl rfl rfl rfl (by decide) (by decide)) ?_|refine kU ?_|refine kV ?_ ?_<;>intro q|fail
  ·(refine Qa 0 (h:=?_);refine QY (hx:=?_))
   rw[f2.out (by simp_all)];rfl
  ·exact Qn 1 (by decide) ⟨2,n1,n2,0,.inr (.inr (.inl ⟨rfl,r1,by simp_all,rfl,rfl,rfl,rfl⟩)),by simp[keepE,go_sem]⟩
 ·repeat' first|refine kS ?_|refine qS (Qdc Ty.h rfl Ty.h rfl rfl rfl (by decide) rfl) ?_|refine qS (QfJ Ty.h rfl Ty.h rfl rfl rfl rfl (by decide) (by decide)) ?_|refine kU ?_|refine kV ?_ ?_<;>intro q|fail
  ·(refine Qa 0 (h:=?_);refine QY (hx:=?_))
   rw[f3.out (by simp_all)];rfl
  ·exact Qn 0 (by decide) ⟨3,n1,n2,n3,.inr (.inr (.inr ⟨rfl,r1,r2,by simp_all,rfl,rfl,rfl,rfl⟩)),by simp[keepE,go_sem]⟩
 ·repeat' first|refine kS ?_|refine qS (Qmc rfl rfl rfl rfl (by decide) (by decide) (by simp)) ?_|refine kU ?_|refine kV ?_ ?_<;>intro q|fail
  ·(refine Qa 0 (h:=?_);refine QY (hx:=?_))
   rw[f5.out (by simp_all)];rfl
  ·(refine Qa 0 (h:=?_);refine QY (hx:=?_))
   rw[hg.out,if_neg (by simpa using q)];rfl
  ·(refine Qa 0 (h:=?_);refine QY (hx:=?_))
   rw[hg.out,if_pos (by simpa using q)]
theorem set_mid{A R:List α}{a v:α}(h:A.length=k):(A++a::R).set k v=A++v::R:=by subst h;simp
theorem get_mid{A R:List α}{a:α}(h:A.length=k):(A++a::R)[k]? =some a:=by subst h;simp
theorem bNodes(s:Pm.Store)(hg:QM s)(htx:0<=s.2.2.1)(t:Pl.Tree):Pure A0 55 [.pd (rSt s),dTree t] (.tup [tNds (if Qao s t then Qc s t else []),dB (Qao s t)]):=by
 have c1:=bLeaves s hg htx t;have hd:AF (Qao s t=(Q8 s t&&(Qc s t).all fun x=>(x==[])||((Qq x).2&&Q8 s (Qq x).1.tree))):=Pm.hid rfl;have hlv:AF (∀t,Q8 s t=(QV s t).2):=Pm.hid fun t=>by unfold QV;split<;>simp_all
 cases ht:Q8 s t
 ·have e:QV s t=([],false):=by unfold QV;rw[if_neg (by rw[ht];simp)]
  rw[e] at c1;have hno:Qao s t=false:=by rw[hd.out,ht];rfl
  rw[hno];refine kE ?_;refine Qa 0 (h:=?_)
  repeat refine kA ?_
  refine Qd7 4 true 1 (h:=?_);exact Qb (hx:=rfl)
 have e2:(QV s t).2=true:=by rw[<-hlv.out,ht]
 have hlen:=QeW ht;have hho:=Pm.hid (Qfe ht);have htx2:=Pm.hid (QfM ht);rw[ht,AP] at hd;rw[e2] at c1;rw[<-hlen.1] at hlen;generalize (QV s t).1=l at*;have hl16:l.length<=16:=hlen.2
 have hNo:AF (∀(k:Nat) p,l[k]? =some p->(((Qj s.1 p).1==[])||((Qq (Qj s.1 p).1).2&&Q8 s (Qq (Qj s.1 p).1).1.tree))=false->Qao s t=false):=Pm.hid fun k p hk h=>by
  rw[hd.out,<-htx2.out,Ak];exact QmH hk h
 have hYes:AF (l.all (fun p=>((Qj s.1 p).1==[])||((Qq (Qj s.1 p).1).2&&Q8 s (Qq (Qj s.1 p).1).1.tree))=true->Qao s t=true/\(Qc s t).map (fun x=>[QaO x])=l.map (fun p=>[QaO (Qj s.1 p).1])):=Pm.hid fun h=>by
  rw[hd.out,<-htx2.out,Ak,List.map_map];exact⟨h,rfl⟩
 clear hd htx2 hlen e2 ht;generalize hres:Qao s t=res at*;generalize hrt:Qc s t=txs at*;clear hres hrt;refine kE ?_;refine Qa 0 (h:=?_)
 repeat' first|refine kS ?_|refine stepS2 (Qi1 Ty.h rfl Ty.h rfl rfl rfl (by simp;omega) (by omega)) (k:=?_)|refine kU ?_|fail
 refine Qs (fun m st=> ∃(k:Nat) (rows:List (List D)),k<=l.length/\m=l.length -k/\rows.length=l.length/\AF (rows=(l.take k).map (fun p=>[QaO (Qj s.1 p).1])++A3 (l.length -k) [D.v (.pointer none)])/\
  AF ((l.take k).all (fun p=>((Qj s.1 p).1==[])||((Qq (Qj s.1 p).1).2&&Q8 s (Qq (Qj s.1 p).1).1.tree))=true)/\
  st=⟨64,[(0,.d (.pd (rSt s))),(28,.d (tPtrs l)),(29,.d (dI l.length)),(30,.d (dI k)),(8,.osl 1 0 0 l.length)],[.row 1 [],.arr 0 1 78 rows]⟩) [0,28,29,30,8] 2 l.length
  ⟨0,A3 l.length [D.v (.pointer none)],by omega,rfl,by simp,Pm.hid (by simp),Pm.hid rfl,by simp[keepE,go_sem]⟩ (round:=?_)
 rintro m st ⟨k,rows,hk,rfl,hlen,hR,hA,rfl⟩
 repeat refine kG ?_
 cases q4:decide ((k:Int)<(l.length:Int))
 ·repeat refine kA ?_
  refine Qa 1 (h:=?_);refine Qb (hx:=?_);have:k=l.length:=by simp at q4;omega
  subst this;rw[AG] at hA hR;obtain⟨r1,r2⟩:=hYes.out hA.out;rw[r1,if_pos rfl];show _=D.tup [D.sl true 1 (txs.map fun x=>[QaO x]),_];rw[r2,<-hlen,AG,hR.out];simp
 have hk2:k<l.length:=by simp at q4;omega
 obtain⟨x,hx⟩: ∃x,l[k]? =some x:=⟨_,A1 hk2⟩;have hr:=Qu (f:=rPtr) hx;obtain⟨ho1,ho2⟩:=hho.out x (A2 hx);have c2:=Qee x;have c3:=bRead s hg x fun _=>ho1
 have c4:=Qu4 (Qj s.1 x).1 (by have:=QiO s hg x;unfold Pm.big;omega);have c5:=bLeaves s hg htx (Qq (Qj s.1 x).1).1.tree;have hlt:=hlv.out (Qq (Qj s.1 x).1).1.tree;have hBad:=Pm.hid (hNo.out k x hx);have hGood:AF ((((Qj s.1 x).1==[])||((Qq (Qj s.1 x).1).2&&Q8 s (Qq (Qj s.1 x).1).1.tree))=true->(l.take (k+1)).all (fun p=>((Qj s.1 p).1==[])||((Qq (Qj s.1 p).1).2&&Q8 s (Qq (Qj s.1 p).1).1.tree))=true):=Pm.hid fun h=>Ql4 hx hA.out h
 have hstep:AF (rows.set k [QaO (Qj s.1 x).1]=(l.take (k+1)).map (fun p=>[QaO (Qj s.1 p).1])++A3 (l.length -(k+1)) [D.v (.pointer none)]):=Pm.hid (by
  have e1:l.length -k=(l.length -(k+1))+1:=by omega
  rw[hR.out,e1,AM,set_mid (by rw[A9,Ab,Af hk]),AU,hx,List.map_append,List.append_assoc];rfl)
 have hrow:rows[k]? =some [D.v (.pointer none)]:=by
  have e1:l.length -k=(l.length -(k+1))+1:=by omega
  rw[hR.out,e1,AM,get_mid (by rw[A9,Ab,Af hk])]
 have hsame:rows.set k [D.v (.pointer none)]=rows:=by
  apply List.ext_getElem?;intro j
  by_cases hj:k=j
  ·subst hj;rw[List.getElem?_set_self (by omega),hrow]
  ·rw[List.getElem?_set_ne hj]
 have hnd:AF (QaO (Qj s.1 x).1=if(Qj s.1 x).1=[] then D.v (.pointer none) else .pd (rNode (Qq (Qj s.1 x).1).1)):=Pm.hid rfl;have hrow2:rows[0+((k:Nat):Int).toNat]? =some [D.v (.pointer none)]:=by simpa using hrow
 clear hx hho hA hYes hNo hlv hR;cases hh:Pl.ptrHole x;rotate_left
 ·have ht:=ho2.2 hh
  rw[hh] at c2
  repeat' first|refine kS ?_|refine qS (iy hr) ?_|refine kU ?_|fail
  refine Qn (l.length -(k+1)) (by omega) ⟨k+1,rows,by omega,rfl,hlen,Pm.hid ?_,Pm.hid (hGood.out (by rw[ht];rfl)),by simp[keepE,go_sem]⟩;rw[<-hstep.out,hnd.out,if_pos ht,hsame]
 rw[hh] at c2;have ht:(Qj s.1 x).1≠[]:=fun e=>by rw[ho2.1 e] at hh;cases hh
 rw[if_neg ht] at hnd;have hne:((Qj s.1 x).1==[])=false:=by simpa using ht
 rw[hne,Bool.false_or] at hBad hGood;clear ho1 ho2 hh hsame hne;generalize Qj s.1 x=rb at*;obtain⟨tx,fine⟩:=rb;simp only at*;generalize QV s (Qq tx).1.tree=lp at*;obtain⟨lp1,lp2⟩:=lp;simp only at hlt c5;rw[hlt] at hBad hGood;generalize QaO tx=ndx at*;generalize Qq tx=nn at*;obtain⟨⟨kind,links,size,⟨⟨p1,p2,p3,p4,p5⟩,depth,many⟩⟩,nok⟩:=nn;simp only at*
 repeat' first|refine kS ?_|refine qS (iy hr) ?_|refine(Qm9 Ty.h rfl rfl hrow2 rfl (kk:=?_))|(show ASeq _ _ _ (⟨none,.store _ (.tmp 61) _,_,_,_,_⟩::_) _;refine Qe4 3 (C:= .row 0 _) (h:=?_))|refine kU ?_|refine kV ?_ ?_<;>intro q|fail
 ·refine Qd7 4 true 1 (h:=?_)
  refine Qb (hx:=?_);rw[hBad.out (by simp_all)];rfl
 ·refine Qd7 4 true 1 (h:=?_)
  refine Qb (hx:=?_);rw[hBad.out (by simp_all)];rfl
 ·refine Qn (l.length -(k+1)) (by omega) ⟨k+1,rows.set k [ndx],by omega,rfl,by simpa using hlen,hstep,Pm.hid (hGood.out (by simp_all)),?_⟩
  rw[hnd.out];simp[keepE,go_sem]
def Qij: ∀c:Nat,Al [0] c=A3 c 0
 |0=>rfl
 |c+1=>by rw[Al,Qij c];rfl
def Qu0(c:Nat)(hc:c<=1000):Pure A0 201 [dS [0],dI c] (dS (A3 c 0)):=
 Qd6 (x:= .string ⟨(A3 c 0).toArray⟩) rfl fun w _=>(Tryz.strings_Repeat ⟨#[0]⟩ c w (by omega) (by show 1*c<=_;omega)).mono fun e w' h=>⟨by rw[<-Qij];exact h.1,h.2⟩
def QmV(s:List UInt8):([0]:List UInt8).isSuffixOf s= !(QaS s==s):=by
 rw[AI,List.isSuffixOf_iff_suffix];have:=QsI s;rcases List.eq_nil_or_concat s with rfl|⟨l,c,rfl⟩
 ·simp[QoS]
 ·rw[List.concat_eq_append] at*
  have h1:([0]:List UInt8)<:+l++[c]↔c=0:=by
   constructor
   ·rintro⟨t,ht⟩
    have:=List.append_inj' ht rfl;have:=this.2;simp at this;exact this.symm
   ·rintro rfl;exact⟨l,rfl⟩
  rw[h1];simp only[List.getLast?_append,List.getLast?_singleton,Option.some_or,ne_eq,AW] at this
  by_cases hc:c=0
  ·simp[hc] at this⊢;exact this
  ·simp[hc] at this⊢;exact this
def QbI(size:Int)(k:Int):Int:=if 0<(if size -k*12<12 then size -k*12 else 12) then(if size -k*12<12 then size -k*12 else 12) else 0
def Qqo(size:Int)(k:Nat)(h0:0<=size)(h1:size<=2048)(hk:k<=100):Pure A0 146 [dI size,dI k] (dI (QbI size k)):=by
 refine kB ?_
 repeat' first|refine kS ?_|refine qS (Qd4 rfl rfl (by omega)) ?_|refine qS (Qno rfl rfl) ?_|refine qS (Qnp rfl rfl) ?_|refine kU ?_|fail
 exact Qb (hx:=by unfold QbI;rfl)
def Qp4{size:Int}(h:(k:Int)*12<size):QbI size k=Qbe size k:=by
 unfold QbI Qbe;split<;>split<;>omega
def QbP(s:List UInt8)(n:Int):List UInt8×Bool:=if Pl.inR n 0 12&&decide ((s.length:Int)<=n) then(s++A3 (n -s.length).toNat 0,true) else([],false)
def Qqp(s:List UInt8)(n:Int)(hs:s.length<=1000000):Pure A0 145 [dS s,dI n] (.tup [dS (QbP s n).1,dB (QbP s n).2]):=by
 have hd:=Pm.hid (QbP.eq_def s n);generalize QbP s n=res at*;have c1:=bIn n 0 12;cases hi:Pl.inR n 0 12
 ·rw[hi] at c1 hd
  refine kB ?_
  repeat refine kA ?_
  refine Qb (hx:=?_);rw[hd.out];rfl
 rw[hi] at c1 hd;have hb:0<=n/\n<=12:=by simpa[Pl.inR] using hi
 by_cases hle:(s.length:Int)<=n
 rotate_left
 ·refine kB ?_
  repeat' first|refine kA ?_|refine kV ?_ ?_<;>intro q|fail
  all_goals first|refine Qb (hx:=?_);rw[hd.out,decide_eq_false hle];rfl|exfalso;simp at*;omega
 have c2:=Qu0 (n -s.length).toNat (by omega);have e2:(((n -s.length).toNat:Nat):Int)=n -s.length:=by omega
 rw[e2] at c2;refine kB ?_
 repeat' first|refine kS ?_|refine qS (Qdg rfl rfl (by simp;omega)) ?_|refine kU ?_|refine kV ?_ ?_<;>intro q|fail
 all_goals first|refine Qb (hx:=?_);rw[hd.out,decide_eq_true hle];rfl|exfalso;simp at*;omega
def Qa3(x:Nat):Bool:=decide ((x:Int)<97)||decide ((x:Int)>122)
def Que(x:Nat)(w:World):Calls A0 120 #[.int .i32 x] w fun e w'=>e= .returned (.bool (Qa3 x))/\w=w':=by
 by_cases h1:(x:Int)<97
 ·have hf:=Pm.hid (show Qa3 x=true by simp[Qa3,h1])
  go_enter AX,AQ
  go_wp2
  go_ret
  exact⟨Pm.Qd2 hf.out.symm,rfl⟩
 ·by_cases h2:(x:Int)>122
  ·have hf:=Pm.hid (show Qa3 x=true by simp only[Qa3,decide_eq_true h2,AY])
   have h3:(122:Int)<x:=h2
   go_enter AX,AQ
   go_wp2
   go_ret
   exact⟨Pm.Qd2 (by rw[hf.out]),rfl⟩
  ·have hf:=Pm.hid (show Qa3 x=false by simp only[Qa3,decide_eq_false h1,decide_eq_false h2,Bool.or_false])
   have h3: ¬(122:Int)<x:=h2
   go_enter AX,AQ
   go_wp2
   go_ret
   exact⟨Pm.Qd2 hf.out.symm,rfl⟩
theorem Qjn(s:ByteArray): ∀(f pos:Nat),s.size<=pos+f->(AJ Qa3 true s f pos<0↔ ∀i (h:i<s.size),pos<=i->Qbf s[i]=true)
 |0,pos,hf=>by
  unfold AJ;exact⟨fun _ i h hp=>by omega,fun _=>by decide⟩
 |f+1,pos,hf=>by
  unfold AJ;split
  ·rename_i hlt
   by_cases ha:(s[pos]'hlt).toNat<128
   ·rw[decode_ascii s pos hlt ha]
    by_cases hl:Qbf (s[pos]'hlt)=true
    ·have hb:Qa3 (s[pos]'hlt).toNat=false:=by
      unfold Qbf at hl;simp only[A8,decide_eq_true_eq] at hl;unfold Qa3;rw[decide_eq_false (by omega),decide_eq_false (by omega)];rfl
     simp only[hb,Bool.false_eq_true,if_false];rw[Qjn s f (pos+1) (by omega)];constructor
     ·intro h i hi hp
      rcases Nat.eq_or_lt_of_le hp with e|e
      ·subst e;exact hl
      ·exact h i hi e
     ·intro h i hi hp;exact h i hi (by omega)
    ·have hb:Qa3 (s[pos]'hlt).toNat=true:=by
      unfold Qbf at hl;unfold Qa3;simp only[A8,decide_eq_true_eq] at hl
      by_cases h:(((s[pos]'hlt).toNat:Nat):Int)<97
      ·rw[decide_eq_true h];rfl
      ·rw[decide_eq_true (p:=((s[pos]'hlt).toNat:Int)>122) (by omega),AY]
     simp only[hb,if_true];exact⟨fun h=>by omega,fun h=>absurd (h pos hlt (Ae _)) hl⟩
   ·have hd:=decode_high s pos hlt (by omega)
    have hb:Qa3 (Am s pos).1=true:=by
     unfold Qa3;rw[decide_eq_true (p:=((Am s pos).1:Int)>122) (by omega),AY]
    simp only[hb,if_true];refine⟨fun h=>by omega,fun h=>?_⟩;have:=h pos hlt (Ae _);unfold Qbf at this;simp only[A8,decide_eq_true_eq] at this;omega
  ·exact⟨fun _ i h hp=>by omega,fun _=>by decide⟩
def Qlm(s:List UInt8)(hs:s.length<=1000000):PureF A0 119 [.d (dS s),.fn (.func 120) []] (dI (AK Qa3 true ⟨s.toArray⟩)):=by
 intro B S w cargs hB hS hl hr
 match cargs,hl with
 |[a,b],_=>
  have h0:=hr 0 _ a rfl rfl;have h1:=hr 1 _ b rfl rfl;cases h0 with
  |d _ _ h0=>
   cases h0;cases h1 with
   |fn _ _ cs hl1 _=>
    obtain rfl:cs=[]:=List.length_eq_zero_iff.1 hl1.symm;refine(Tryz.strings_IndexFunc_runes 120 #[] Tryz.call120 Qa3 ⟨s.toArray⟩ w (fun W x _ _=>?_)).mono fun e w' h=>⟨_,h.1,h.2,.v _⟩
    exact(Que x W).mono fun e w' h=>⟨h.1,0,by rw[<-h.2];rfl⟩
def QpF(s:List UInt8):(decide (AK Qa3 true ⟨s.toArray⟩<0))=s.all Qbf:=by
 rw[AI,decide_eq_true_eq];unfold AK;rw[Qjn _ _ 0 (by omega),Ac];constructor
 ·intro h x hx
  obtain⟨i,hi,rfl⟩:=List.getElem_of_mem hx;exact h i hi (Nat.zero_le _)
 ·intro h i hi _
  exact h _ (List.getElem_mem (show i<s.length from hi))
theorem bNameOk(s:List UInt8)(hs:s.length<=1000000):Pure A0 66 [dS s] (dB (Qac s)):=by
 have hd:AF (Qac s=(s.all Qbf&&Pl.inR s.length 1 4)):=Pm.hid (QlY s);have c1:=bIn s.length 1 4;have c2:=Qlm s hs;rw[<-QpF] at hd;generalize AK Qa3 true ⟨s.toArray⟩=ix at*;generalize Pl.inR s.length 1 4=o at*;refine kB ?_
 repeat' first|refine kS ?_|refine qS (QdX cK c2 rfl rfl) ?_|refine kU ?_|refine kV ?_ ?_<;>intro q|fail
 all_goals
  refine Qb (hx:=?_);rw[hd.out]
  simp_all
theorem Qq1(l:List Ql)(hl:l.length<=Pm.big)(hs: ∀e∈l,e.1.length<=1000000):Pure A0 153 [dEnts l] (dB (Qaa l)):=by
 simp only[Pm.big] at hl;have hd:AF (Qaa l=((Ah l.length).all (QaJ l)&&decide (l.length<=12))):=Pm.hid rfl;refine kB ?_
 repeat refine kA ?_
 refine Qs (fun m st=> ∃k:Nat,k<=l.length/\m=l.length -k/\AF ((Ah k).all (QaJ l)=true)/\st=⟨41,[(5,.d (dEnts l)),(6,.d (dI l.length)),(7,.d (dI k)),(0,.d (dEnts l))],[]⟩) [5,6,7,0] 0 l.length ⟨0,by omega,rfl,Pm.hid rfl,by simp[keepE,go_sem]⟩ (round:=?_);rintro m st ⟨k,hk,rfl,hA,rfl⟩
 repeat refine kG ?_
 cases q3:decide ((k:Int)<(l.length:Int))
 ·repeat refine kA ?_
  refine Qb (hx:=?_);have:k=l.length:=by simp at q3;omega
  have h:=hA.out;rw[this] at h;rw[hd.out,h];refine congrArg dB ?_;simp;omega
 have hk2:k<l.length:=by simp at q3;omega
 obtain⟨x,hx⟩: ∃x,l[k]? =some x:=⟨_,A1 hk2⟩;have hr:=Qu (f:=rEnt) hx;obtain⟨y,hy⟩: ∃y,l[k -1]? =some y:=⟨_,A1 (by omega)⟩
 have hr2:AF (0<k->(l.map rEnt)[((k:Int) -1).toNat]? =some (rEnt y)):=fun h=>by
  rw[show((k:Int) -1).toNat=k -1 by omega,A7,hy];rfl
 have he:AF (QaJ l k=(Qac x.1&&Pl.inR x.2 1 15&&(decide (k=0)||Op.bytesLess y.1 x.1))):=Pm.hid (by
  unfold QaJ;simp only[AB,hx,hy,Ad])
 have T:AF (QaJ l k=true->(Ah (k+1)).all (QaJ l)=true):=fun h=>Pl.Qdn (p:=QaJ l) hA.out h
 have F:AF (QaJ l k=false->Qaa l=false):=fun h=>by
  rw[hd.out,Pl.Qdj (p:=QaJ l) hk2 h];rfl
 have c1:=bNameOk x.1 (hs x (A2 hx));have c2:=bIn x.2 1 15;rw[he.out] at T F;clear hx hy hA hd he;generalize Qac x.1=o1 at*;generalize Pl.inR x.2 1 15=o2 at*
 repeat' first|refine kS ?_|refine qS (iy hr) ?_|refine qD (Qdc Ty.h rfl Ty.h rfl rfl rfl (by simp only[decide_eq_true_eq] at*;omega) (hr2.out (by simp only[decide_eq_true_eq] at*;omega))) ?_|refine qD (Qka rfl rfl) ?_|refine kU ?_|refine kV ?_ ?_<;>intro q|fail
 all_goals clear c1 c2 hr hr2
 all_goals simp only[decide_eq_true_eq,decide_eq_false_iff_not] at*
 all_goals first|refine Qn (l.length -(k+1)) (by omega) ⟨k+1,by omega,rfl,Pm.hid (T.out ?_),by simp[keepE,go_sem]⟩;clear T F;simp_all;try omega|refine Qb (hx:=?_);rw[F.out ?_];clear T F;simp_all;try omega
attribute [local irreducible] EndR
def ePut_a(g:Nat)(w:Pl.Sto)(N:Nat)(hN:N<=800000)(hw:w.W N)(t:Pl.Tree)(ht:Qx t)(k:Nat)(hk:k<16)(text:List UInt8)(htx:text.length<=Pm.big)(h1:(Qj w.rows ((Qg w.st t).getD k Pl.hole)).1=text):
 DoesE A0 38 [oS g w,.d (dTree t),.d (dI k),.d (dS text)] (hS g w) (gS g w) (fun x H=> ∃g',((Qp w t k text).2.2=false->g'=g)/\x= .tup [oS g' (Qp w t k text).1,.d (dTree (Qp w t k text).2.1),.d (dB (Qp w t k text).2.2)]/\H=hS g' (Qp w t k text).1):=by
 have hgood:=hw.good;have c1:=dWide w.st hgood t ht;have hl:=QdG w.st ht.hi;have ho:=QfD w.st ht.root
 have hfl:[Blk.arr 2 5 31 ((Qg w.st t).map rPtr)].all Blk.flat=true:=by
  simp[Blk.flat];intro x _;exact⟨rfl,rfl,rfl,rfl,rfl⟩
 have hd:=Pm.hid (Qp.eq_def w t k text);have hm1:=ht.manyLo;have hm2:=ht.manyHi;have hmx:(if((k:Int)+1)>t.many then((k:Int)+1) else t.many)=((max t.many.toNat (k+1):Nat):Int):=by split<;>omega
 have hmk:max t.many.toNat (k+1)<=16:=by omega
 have hmq:(max t.many.toNat (k+1)=t.many.toNat)↔((max t.many.toNat (k+1):Nat):Int)=t.many:=by omega
 generalize max t.many.toNat (k+1)=many at*;generalize Qp w t k text=res at*;generalize Qg w.st t=wd at*;have hkl:k<wd.length:=by omega
 have hr0:(wd.map rPtr)[0+(k:Int).toNat]? =some (rPtr (wd.getD k Pl.hole)):=by
  rw[AT,AZ,A7,AB,A1 hkl];rfl
 have hoo:=QgU ho k;have hset: ∀p,(wd.map rPtr).set (0+(k:Int).toNat) (rPtr p)=(wd.set k p).map rPtr:=fun p=>by rw[AT,AZ,List.map_set]
 have hsl: ∀p,(wd.set k p).length=16:=fun p=>by rw[List.length_set];exact hl
 have hT: ∀p,((wd.set k p).map rPtr).take 16=(wd.set k p).map rPtr:=fun p=>List.take_of_length_le (by simp[hl])
 have hso: ∀p,Pl.ptrOk p=true-> ∀q∈wd.set k p,Pl.ptrOk q=true:=fun p hp q hq=>by
  rcases List.mem_or_eq_of_mem_set hq with e|e
  ·exact ho q e
  ·rw[e];exact hp
 have c2:=al7R w.st hgood (wd.getD k Pl.hole) fun _=>hoo
 have hF: ∀(w1:Pl.Sto) (p:Pl.Ptr),AF (QaB w1 t k many p wd=if(Qw w1 t (wd.set k p) many).2.2 then(if p=wd.getD k Pl.hole then(Qw w1 t (wd.set k p) many).1 else(Qw w1 t (wd.set k p) many).1.free (wd.getD k Pl.hole),(Qw w1 t (wd.set k p) many).2.1,true)
  else((Qw w1 t (wd.set k p) many).1,(Qw w1 t (wd.set k p) many).2.1,false)):=fun w1 p=>Pm.hid rfl
 generalize wd.getD k Pl.hole=old at*;rw[show w.st.1=w.rows from rfl] at c2;generalize Qj w.rows old=rb at*;obtain⟨was,wok⟩:=rb;simp only at c2 hd h1;have hw':=hw.le (M:=N+1) (by omega)
 have go: ∀(w1:Pl.Sto) (p:Pl.Ptr),w1.W (N+1)->Pl.ptrOk p=true->w1.gone=w.gone->AF (res=QaB w1 t k many p wd)->
  (w=w1/\old=p/\(was==text)=true/\AF (((many:Int)==t.many)=false))->
  DoesE A0 38 [oS g w,.d (dTree t),.d (dI k),.d (dS text)] (hS g w) (gS g w) (fun x H=> ∃g',(res.2.2=false->g'=g)/\x= .tup [oS g' res.1,.d (dTree res.2.1),.d (dB res.2.2)]/\H=hS g' res.1):=by
  intro w1 p hw1 hp hgn hd hcase;rw[(hF w1 p).out] at hd;have cL:=pinS (X:=fun g'=> .tup [oS g' (Qw w1 t (wd.set k p) many).1,.d (dTree (Qw w1 t (wd.set k p) many).2.1),.d (dB (Qw w1 t (wd.set k p) many).2.2)]) (C:=fun g'=>(Qw w1 t (wd.set k p) many).2.2=false->g'=g) (eLay g w1 (N+1) (by omega) hw1 t ht.root (wd.set k p) (hsl p) (hso p hp) many hmk);have hWy:=(lay_W hw1 ht.root (hso p hp) hmk).1;have hst:=hset p;rw[<-show(AV.d (.sl true 5 (((wd.set k p).map rPtr).take 16)))= .d (tPtrs (wd.set k p)) by rw[hT]] at cL;generalize Qw w1 t (wd.set k p) many=y at*;clear hset hT hso hsl;generalize (wd.set k p).map rPtr=rows2 at*;obtain⟨w2,t2,ok2⟩:=y;simp only at cL hd hWy;rw[hgn] at cL;have v0:w2.rows.length=w.rows.length:=by rw[hWy.rows,hw.rows]
  have v1:w2.refs.length=w.refs.length:=by rw[hWy.refs,hw.refs]
  have v2:w2.last.length=w.last.length:=by rw[hWy.last,hw.last]
  have cf:=fun g'=>eFree2 g' w2 (N+1+13) (by omega) hWy old hoo
  have hWf:=hWy.free hoo;have u0:(w2.free old).rows.length=w.rows.length:=by rw[hWf.rows,hw.rows]
  have u1:(w2.free old).refs.length=w.refs.length:=by rw[hWf.refs,hw.refs]
  have u2:(w2.free old).last.length=w.last.length:=by rw[hWf.last,hw.last]
  generalize w2.free old=wf at*;clear hWf hWy hF;have hpo: ∃b,decide (p=old)=b:=⟨_,rfl⟩;obtain⟨bpo,hpo⟩:=hpo;have hdF:ok2=false->AF (res=(w2,t2,false)):=fun e=>Pm.hid (by rw[hd.out,e];rfl)
  have hdT:ok2=true->bpo=true->AF (res=(w2,t2,true)):=fun e e3=>Pm.hid (by rw[hd.out,e,if_pos rfl,if_pos (of_decide_eq_true (hpo.trans e3))])
  have hdN:ok2=true->bpo=false->AF (res=(wf,t2,true)):=fun e e3=>Pm.hid (by rw[hd.out,e,if_pos rfl,if_neg (of_decide_eq_false (hpo.trans e3))])
  clear hd;obtain⟨rfl,rfl,hb1,hb2⟩:=hcase;obtain rfl:bpo=true:=by rw[<-hpo];simp
  clear hdN cf;cases ok2
  all_goals
   refine kH fun gvs=>?_
   repeat' first|refine kS ?_|refine(QdY (ds:=[dTree t]) c1 cK hw rfl hfl (k:=?_))|refine qS (Qdf Ty.h rfl rfl hr0 rfl) ?_|refine qS (Qdh cK c2 hw) ?_|refine qS (Qg4 rfl rfl hmx) ?_|refine qS (Qei rfl rfl hb1) ?_|refine qS (Qeh rfl rfl hb1) ?_|refine(QnS Ty.h rfl rfl hr0 hst (kk:=?_))|refine(Qa 9 (C:= .arr 2 5 31 rows2) (h:=?_))|(refine QD [0,1,2,3,4] cL cK (k:=?_);rintro _ _ ⟨g2,hg2,hC,rfl,rfl⟩;refine QdF (k:=?_))|refine qS (Qjc rfl rfl hpo) ?_|refine(Qa 6 (h:=Fg.awp_drawF [1] [2,3] ?_))|refine kU ?_|refine kV ?_ ?_<;>intro q|fail
  all_goals first
   |exact absurd (hb2.out.symm.trans ‹((many:Int)==t.many)=true›) (by decide)
   |(obtain rfl:=hC rfl
     rcases hg2 with hg2|⟨_,hg2⟩
     ·omega
     ·refine QN 5 (hx:=?_)
      rw[(hdF rfl).out]
      exact⟨_,fun _=>rfl,rfl,rfl⟩)
   |(have hg4:g<g3∨g3=g/\wf.gone.length=w.gone.length:=by
      rcases hg2 with h1|⟨h1,h2⟩<;>rcases hg3 with h3|⟨h3,h4⟩<;>first|(left;omega)|(right;exact⟨by omega,h4.trans h2⟩)
     rcases hg4 with hg4|⟨rfl,hg4⟩<;>(refine QN 5 (hx:=?_);rw[(hdN rfl rfl).out];refine⟨_,?_,rfl,rfl⟩;intro h;cases h))
   |(rcases hg2 with hg2|⟨rfl,hg2⟩<;>(refine QN 5 (hx:=?_);rw[(hdT rfl rfl).out];refine⟨_,?_,rfl,rfl⟩;intro h;cases h))
 have hb1: ∀b,decide (was=text)=b->(was==text)=b:=fun b h=>by rw[<-h];by_cases e:was=text<;>simp[e]
 replace hb1:=hb1 true (by simpa using h1)
 rw[if_pos h1] at hd
 by_cases h2:many=t.many.toNat
 ·have hb2:AF (((many:Int)==t.many)=true):=Pm.hid (by simpa using hmq.1 h2)
  rw[if_pos h2] at hd;clear hF hset hT hso;refine kH fun gvs=>?_
  repeat' first|refine kS ?_|refine(QdY (ds:=[dTree t]) c1 cK hw rfl hfl (k:=?_))|refine qS (Qdf Ty.h rfl rfl hr0 rfl) ?_|refine qS (Qdh cK c2 hw) ?_|refine qS (Qg4 rfl rfl hmx) ?_|refine qS (Qei rfl rfl hb1) ?_|(show AWP _ (.region 6 _ _) _ _;refine(Qa 6 (h:=Fg.awp_drawF (id:=6) [1] [2,3] ?_)))|refine kU ?_|refine kV ?_ ?_<;>intro q|fail
  all_goals first|exact absurd (hb2.out.symm.trans ‹((many:Int)==t.many)=false›) (by decide)|refine QN 5 (hx:=?_);rw[hd.out];exact⟨g,fun _=>rfl,rfl,rfl⟩
 have hb2:AF (((many:Int)==t.many)=false):=Pm.hid (by simpa using fun e=>h2 (hmq.2 e));rw[if_neg h2] at hd;exact go w old hw' hoo rfl hd ⟨rfl,rfl,hb1,hb2⟩
theorem Qga{S:Nat->Prop}{g:Nat}{len:Nat}{v:An}(hk:k≠3)(h:Rel σ S (hS g1 w') wd (.osl k g 0 len) v):Rel σ S (hS g2 w') wd (.osl k g 0 len) v:=by
 cases h with
 |osl _ _ _ _ _ ho g' sz T rows hb hg h=>
  refine .osl _ _ _ _ _ ho g' sz T rows ?_ hg h
  grind
def Qt8{S:Nat->Prop}{len:Nat}{v:An}(h:Rel σ S (hS g1 w') wd (.osl 3 g1 0 len) v):Rel σ S (hS g2 w') wd (.osl 3 g2 0 len) v:=by
 cases h with
 |osl _ _ _ _ _ ho g' sz T rows hb hg h=>
  cases hb;exact .osl _ _ _ _ _ ho _ _ _ _ rfl (Ae _) fun _=>h rfl
def Qhg{S:Nat->Prop}{x:D}{v:An}(h:Rel σ S (hS g1 w') wd (.d x) v):Rel σ S (hS g2 w') wd (.d x) v:=by
 cases h with
 |d _ _ h=>exact .d _ _ h
def rel_oS{S:Nat->Prop}{v:An}(h:Rel σ S (hS g1 w') wd (oS g1 w2) v):Rel σ S (hS g2 w') wd (oS g2 w2) v:=by
 cases h with
 |agg _ cs hl h=>
  refine .agg _ cs hl fun i d x hd hx=>?_
  match i,hd,hx with
  |0,hd,hx=>cases hd;exact Qga (by decide) (h 0 _ x rfl hx)
  |1,hd,hx=>cases hd;exact Qga (by decide) (h 1 _ x rfl hx)
  |2,hd,hx=>cases hd;exact Qga (by decide) (h 2 _ x rfl hx)
  |3,hd,hx=>cases hd;exact Qhg (h 3 _ x rfl hx)
  |4,hd,hx=>cases hd;exact Qt8 (h 4 _ x rfl hx)
  |5,hd,hx=>cases hd;exact Qhg (h 5 _ x rfl hx)
  |6,hd,hx=>cases hd;exact Qga (by decide) (h 6 _ x rfl hx)
  |7,hd,hx=>cases hd;exact Qhg (h 7 _ x rfl hx)
  |i+8,hd,hx=>cases hd
def Qgz{S:Nat->Prop}{b:D}{v:An}(h:Rel σ S (hS g1 w') wd (.tup [oS g1 w2,.d a,.d b]) v):Rel σ S (hS g2 w') wd (.tup [oS g2 w2,.d a,.d b]) v:=by
 cases h with
 |tup _ cs hl h=>
  refine .tup _ cs hl fun i d x hd hx=>?_
  match i,hd,hx with
  |0,hd,hx=>cases hd;exact rel_oS (h 0 _ x rfl hx)
  |1,hd,hx=>cases hd;exact Qhg (h 1 _ x rfl hx)
  |2,hd,hx=>cases hd;exact Qhg (h 2 _ x rfl hx)
  |i+3,hd,hx=>cases hd
def sm_tag{B:Bs}{S:Nat->Prop}(h:Sm B σ S (hS g1 w') wd):Sm B σ S (hS g2 w') wd:=
 {h with
  blk:=fun k C hC=>by
   match k,hC with
   |0,hC=>cases hC;exact h.blk 0 _ rfl
   |1,hC=>cases hC;exact h.blk 1 _ rfl
   |2,hC=>cases hC;exact h.blk 2 _ rfl
   |3,hC=>cases hC;exact h.blk 3 _ rfl
   |4,hC=>cases hC;exact h.blk 4 _ rfl
   |k+5,hC=>cases hC}
theorem DoesE.tag{g:Nat}{X:Nat->AV}{C:Nat->Prop}(h:DoesE A0 f args (hS g w) (gS g w) (fun x H=> ∃g',C g'/\x=X g'/\H=hS g' w'))
 (hX: ∀{σ:Sg} {S:Nat->Prop} {g1 g2:Nat} {wd:World} {v:An},Rel σ S (hS g1 w') wd (X g1) v->Rel σ S (hS g2 w') wd (X g2) v):
 DoesE A0 f args (hS g w) (gS g w) (fun x H=>x=X (g+1)/\H=hS (g+1) w'):=by
 intro B σ S w0 cargs gvs h1 h2 h3 h4 h5 h6;refine(h B σ S w0 cargs gvs h1 h2 h3 h4 h5 h6).mono ?_;rintro _ _ ⟨x,H1,⟨g',h0,rfl,rfl⟩,h7,v,σ',S',rfl,h8,h9,h10⟩;refine⟨_,_,⟨rfl,rfl⟩,fun i C0 hC=>?_,v,σ',S',rfl,sm_tag h8,hX h9,fun i d v hd hv=>?_⟩
 ·obtain⟨C',e1,e2⟩:=h7 i C0 hC
  match i,hC,e1 with
  |0,hC,e1=>grind
  |1,hC,e1=>grind
  |2,hC,e1=>grind
  |3,hC,e1=>cases hC;exact⟨_,rfl,rfl,rfl,.inl (Nat.lt_succ_self g)⟩
  |4,hC,e1=>grind
  |i+5,hC,e1=>cases hC
 ·have e:=h10 i d v hd hv
  match i,hd with
  |0,hd=>cases hd;exact Qga (by decide) e
  |1,hd=>cases hd;exact Qga (by decide) e
  |2,hd=>cases hd;exact Qga (by decide) e
  |3,hd=>cases hd;cases e with
   |osl _ _ _ _ _ ho g2 sz T rows hb hg h=>exact .osl _ _ _ _ _ ho _ _ _ _ rfl (Nat.le_succ g) fun h=>absurd h (by omega)
  |4,hd=>cases hd;exact Qga (by decide) e
  |i+5,hd=>cases hd
theorem DoesE.tag3{g:Nat}{ok:Bool}(h:DoesE A0 f args (hS g w) (gS g w) (fun x H=> ∃g',(ok=false->g'=g)/\x= .tup [oS g' w2,.d a,.d (dB ok)]/\H=hS g' w')):
 DoesE A0 f args (hS g w) (gS g w) (fun x H=>x= .tup [oS (if ok then g+1 else g) w2,.d a,.d (dB ok)]/\H=hS (if ok then g+1 else g) w'):=by
 cases ok
 ·grind
 ·exact h.tag Qgz
def bCut(c:UInt8)(s:List UInt8)(hs:s.length<=4294967280):Pure A0 150 [dS s,dS [c]] (.tup [dS (A5 s [c]).1,dS (A5 s [c]).2.1,dB (A5 s [c]).2.2]):=
 Qfr (xs:=[.string ⟨(A5 s [c]).1.toArray⟩,.string ⟨(A5 s [c]).2.1.toArray⟩,.bool (A5 s [c]).2.2]) rfl fun w hL=>by
  obtain⟨m,hm⟩:=hL.maxl;refine(Tryz.strings_Cut ⟨s.toArray⟩ ⟨#[c]⟩ m w (by rw[Pm.Qj7];omega) hm).mono fun e w' ⟨he,n,hw⟩=>⟨?_,hw▸Pm.QgZ w n⟩
  rw[he]
def Qcu(e:Ql):Prop:=(59:UInt8)∉e.1/\(61:UInt8)∉e.1/\0<=e.2/\e.2<1000000000
def Qsx{e:Ql}(h:Qcu e):QaE (Qau e)=some e:=by
 obtain⟨h0,h1,h2,h3⟩:=h;unfold QaE Qau;rw[Pl.Qes 61 _ _ h1,Pl.QeL 61 _ (Qh2 _ (by decide))];simp only[Pl.QdA (show e.2.toNat<1000000000 by omega),Ad];obtain⟨a,b⟩:=e;simp only[AW,Prod.mk.injEq,true_and] at*;omega
def Qhy(rest:List UInt8): ∀{l:List Ql},(∀e∈l,Qcu e)->Pl.cutB 59 (QB l++rest)=l.map Qau++Pl.cutB 59 rest
 |[],_=>rfl
 |e::l,h=>by
  have h1:QB (e::l)++rest=Qau e++59::(QB l++rest):=by simp[QB]
  have hn:(59:UInt8)∉Qau e:=by
   unfold Qau;intro hm;rcases AA.1 hm with hm|hm
   ·exact(h e AR).1 hm
   ·rcases AN.1 hm with hm|hm
    ·exact absurd hm (by decide)
    ·exact Qh2 _ (by decide) hm
  rw[h1,Pl.Qes 59 _ _ hn,Qhy rest fun x hx=>h x (AL _ hx)];rfl
def eg_end{s:List UInt8}(hE: ∀e∈out,Qcu e)(hs:s=QB out):QbZ s=if Qaa out=true then(out,true) else([],false):=by
 have hc:=Qhy [] hE;rw[Ag,<-hs] at hc
 rw[Qs1 (m:=out) (by rw[hc];simp[Pl.cutB]) fun i e he=>⟨Qau e,by
  rw[hc,AD (by simpa using(AE.1 he).1),A7,he];rfl,Qsx (hE e (A2 he))⟩]
 simp[hs]
def eg_pre{s one tail:List UInt8}{p:List Ql}(hE: ∀e∈out,Qcu e)(hs:s=QB out++(one++59::tail))(hn:(59:UInt8)∉one)(h:QbB s p): ∃e,p[out.length]? =some e/\one=Qau e:=by
 have hc:=Qhy (one++59::tail) hE;rw[<-hs,<-h.2,Qi4 (ent_b h.1),Pl.Qes 59 _ _ hn] at hc;have hl:=congrArg List.length hc;have hne:=List.length_pos_iff.2 (Pl.QgY 59 tail);simp only[AC,A9,A6,AH] at hl;have hi:=congrArg (fun l=>l[out.length]?) hc;rw[AD (by simp;omega),List.getElem?_append_right (by simp),A7] at hi;simp only[A9,Nat.sub_self,List.getElem?_cons_zero] at hi;cases hp:p[out.length]? with
 |none=>rw[hp] at hi;cases hi
 |some e=>rw[hp] at hi;exact⟨e,rfl,(Ao hi).symm⟩
def eg_cut0{s:List UInt8}(hE: ∀e∈out,Qcu e)(hs:s=QB out++rest)(hr:rest≠[])(h:(59:UInt8)∉rest):QbZ s=([],false):=by
 refine QoI fun p hp=>hr ?_
 have hc:=Qhy rest hE;rw[<-hs,<-hp.2,Qi4 (ent_b hp.1),Pl.QeL 59 _ h] at hc;have:=congrArg List.getLast? hc;simpa using this.symm
structure EgStep(s rest:List UInt8)(out:List Ql)(w v:List UInt8×List UInt8×Bool)(g:Option Nat):Prop where
 bad:(w.2.2&&v.2.2&&g.isSome&&decide (out.length≠12))=false->QbZ s=([],false)
 good:(w.2.2&&v.2.2&&g.isSome)=true->s=QB (out++[(v.1,((g.getD 0:Nat):Int))])++w.2.1/\Qcu (v.1,((g.getD 0:Nat):Int))/\w.2.1.length<rest.length
 l1:w.1.length<=rest.length
 l2:w.2.1.length<=rest.length
 l3:v.1.length<=rest.length
 l4:v.2.1.length<=rest.length
def eg_next{s:List UInt8}(hE: ∀e∈out,Qcu e)(hs:s=QB out++rest)(hr:rest≠[]):
 EgStep s rest out (A5 rest [59]) (A5 (A5 rest [59]).1 [61]) (Pl.numGet (A5 (A5 rest [59]).1 [61]).2.1):=by
 have hlen: ∀(c:UInt8) (x:List UInt8),(A5 x [c]).1.length<=x.length/\(A5 x [c]).2.1.length<=x.length:=fun c x=>by
  by_cases h:c∈x
  ·obtain⟨a,r,rfl,hn⟩:=Pl.QeU h
   rw[Pl.QhW hn];simp;omega
  ·rw[Pl.Qi6 h];simp
 have g1:=hlen 59 rest;have g2:=hlen 61 (A5 rest [59]).1;refine⟨?_,?_,g1.1,g1.2,by omega,by omega⟩
 ·intro hb
  by_cases h:(59:UInt8)∈rest
  ·obtain⟨one,tail,rfl,hn⟩:=Pl.QeU h
   rw[Pl.QhW hn] at hb;refine QoI fun p hp=>?_
   obtain⟨e,he,rfl⟩:=eg_pre hE hs hn hp;have hb2:=ent_b hp.1 e (A2 he);have hle:out.length<p.length:=(AE.1 he).1;have h12:p.length<=12:=by have:=hp.1;unfold Qaa at this;rw[A8,decide_eq_true_eq] at this;exact this.2
   simp only at hb;rw[show Qau e=e.1++61::Pl.dec e.2.toNat from rfl,Pl.QhW (Qg1 hb2.1 (by decide))] at hb;simp only[Pl.QdA (show e.2.toNat<1000000000 by omega),Option.isSome_some,AP,decide_eq_false_iff_not] at hb;omega
  ·exact eg_cut0 hE hs hr h
 ·intro hb
  by_cases h:(59:UInt8)∈rest
  ·obtain⟨one,tail,rfl,hn⟩:=Pl.QeU h
   rw[Pl.QhW hn] at hb⊢;simp only at hb⊢
   by_cases h6:(61:UInt8)∈one
   ·obtain⟨a,b,rfl,hm⟩:=Pl.QeU h6
    rw[Pl.QhW hm] at hb⊢;simp only[AP] at hb⊢;obtain⟨n,hg⟩:=Option.isSome_iff_exists.1 hb;obtain⟨rfl,hlt⟩:=Pl.QdE hg;rw[hg];refine⟨?_,⟨fun hc=>hn (List.mem_append_left _ hc),hm,by simp,by simp;omega⟩,?_⟩
    ·rw[hs];simp[QB,Qau]
    ·simp;omega
   ·rw[Pl.Qi6 h6] at hb;simp at hb
  ·rw[Pl.Qi6 h] at hb;simp at hb
theorem QnQ(s:List UInt8)(hs:s.length<=1000000):Pure A0 91 [dS s] (.tup [tEnts (QbZ s).1,dB (QbZ s).2]):=by
 refine kB ?_
 repeat refine kA ?_
 refine Qfk 4 2 56 (h:=?_)
 skip
 refine Qs (fun m st=> ∃(g:Nat) (out:List Ql) (rest:List UInt8),m=rest.length/\AF (s=QB out++rest)/\AF (∀e∈out,Qcu e)/\rest.length<=1000000/\out.length<=12/\AF (∀e∈out,e.1.length<=1000000)/\
  st=⟨61,[(4,.osl 0 g 0 out.length),(5,.d (dS rest))],[.arr g 2 56 (out.map rEnt)]⟩) [4,5] 1 s.length ⟨0,[],s,rfl,Pm.hid rfl,Pm.hid (by simp),hs,by simp,Pm.hid (by simp),rfl⟩ (round:=?_)
 rintro m st ⟨g,out,rest,rfl,hO,hE,hrl,hlen,hnl,rfl⟩
 repeat refine kG ?_
 by_cases hr:rest=[]
 ·subst hr
  have hg:=Pm.hid (eg_end (s:=s) hE.out (by rw[hO.out,Ag]));have ce:=(Qq1 out (by unfold Pm.big;omega) hnl.out).arg (l:=[tEnts out]);generalize QbZ s=res at*;generalize Qaa out=o1 at*
  repeat refine kA ?_
  refine Qe4 0 (h:=?_)
  repeat' first|refine kA ?_|refine kV ?_ ?_<;>intro q|fail
  ·refine Qd7 2 true 2 (h:=?_)
   refine Qb (hx:=?_);rw[hg.out];simp_all
  ·refine Qb (hx:=?_)
   rw[hg.out];simp_all
 have hne:(!(rest==([]:List UInt8)))=true:=by simpa using hr
 have st:=eg_next hE.out hO.out hr;have c1:=bCut 59 rest (by omega);generalize A5 rest [59]=w at*;obtain⟨one,tail,ok⟩:=w;have z1:one.length<=rest.length:=st.l1;have c2:=bCut 61 one (by omega);simp only at st;generalize A5 one [61]=v at*;obtain⟨name,num,fine⟩:=v;have z2:name.length<=rest.length:=st.l3;have z3:num.length<=rest.length:=st.l4;have z4:tail.length<=rest.length:=st.l2;have c3:=bNumGet num (by unfold Pm.big;omega);have c4:=bClone name (by unfold Pm.big;omega);have F:=Pm.hid st.bad;have T:=Pm.hid st.good;clear st;simp only at F T c1 c2;generalize Pl.numGet num=gg at*;generalize gg.isSome=good at*;generalize hnv:gg.getD 0=nv at*
 have hq:((out.length:Int)==12)=decide (out.length=12):=by
  rw[AI];simp;omega
 generalize QbZ s=res at*
 repeat' first|refine kS ?_|refine QU Ty.h rfl Ty.h (hb:=?_) (kk:=?_)|refine kU ?_|refine kV ?_ ?_<;>intro q|fail
 all_goals first
  |exact absurd (hne.symm.trans ‹_=false›) (by decide)
  |(refine Qd7 2 true 2 (h:=?_)
    refine Qb (hx:=?_)
    rw[F.out (by simp_all)];rfl)
  |(simp;omega)
  |(exfalso;simp_all;done)
  |(obtain⟨t1,t2,t3⟩:=T.out (by simp_all)
    have h12:out.length≠12:=fun e=>absurd (‹((out.length:Int)==12)=false›) (by rw[hq];simp[e])
    refine Qn tail.length t3 ⟨g+1,out++[(name,(nv:Int))],tail,rfl,Pm.hid t1,Pm.hid ?_,by omega,by simp only[AC,A6,AH];omega,Pm.hid ?_,?_⟩
    ·intro e he
     rcases AA.1 he with h|h
     ·exact hE.out e h
     ·rw[A4.1 h];exact t2
    ·intro e he
     rcases AA.1 he with h|h
     ·exact hnl.out e h
     ·rw[A4.1 h];show name.length<=1000000;omega
    ·simp[keepE,go_sem])
def Qc0(l:List (List UInt8))(pr:List UInt8->Bool):Int:=match l.findIdx? pr with
 |some i=>(i:Int)
 |none=> -1
theorem Quf(l:List (List UInt8))(pr:List UInt8->Bool):decide (Qc0 l pr≥0)=l.any pr:=by
 unfold Qc0
 grind
theorem Qqs(l:List (List UInt8))(hl:l.length<=1000000)(f:FuncId)(pr:List UInt8->Bool)(hf: ∀args w,(callFunc f args).run A0 w= .ok (.enter f args) w)(h: ∀p∈l,Pure A0 f [dS p] (dB (pr p))):
 PureF A0 118 [.d (tStrs l),.fn (.func f) []] (dI (Qc0 l pr)):=by
 refine kF ?_
 repeat refine kA ?_
 refine Qs (fun m st=> ∃k:Nat,k<=l.length/\m=l.length -k/\AF (∀x∈l.take k,pr x=false)/\st=⟨19,[(8,.d (dI k)),(7,.d (dI l.length)),(0,.d (tStrs l)),(1,.fn (.func f) [])],[]⟩) [8,7,0,1] 0 l.length ⟨0,by omega,rfl,Pm.hid (by simp),by simp[keepE,go_sem]⟩ (round:=?_);rintro m st ⟨k,hk,rfl,hA,rfl⟩
 repeat refine kG ?_
 cases q3:decide ((k:Int)<(l.length:Int))
 ·repeat refine kA ?_
  refine QY (hx:=?_);have:k=l.length:=by grind
  have h:=hA.out;rw[this,AG] at h;have:l.findIdx? pr=none:=List.findIdx?_eq_none_iff.2 h;unfold Qc0;rw[this]
 have hk2:k<l.length:=by grind
 obtain⟨x,hx⟩: ∃x,l[k]? =some x:=⟨_,A1 hk2⟩;have hr:=Qu (f:=fun s=>[dS s]) hx
 have T:AF (pr x=false-> ∀y∈l.take (k+1),pr y=false):=Pm.hid fun h y hy=>by
  rw[AU,hx] at hy;rcases AA.1 hy with hy|hy
  ·exact hA.out y hy
  grind
 have F:AF (pr x=true->Qc0 l pr=k):=Pm.hid fun h=>by
  have:l.findIdx? pr=some k:=by
   rw[List.findIdx?_eq_some_iff_getElem];refine⟨hk2,?_,fun j hj=>?_⟩
   ·grind
   ·have:=hA.out l[j] (List.mem_iff_getElem?.2 ⟨j,by grind⟩)
    grind
  unfold Qc0;rw[this]
 have c:=h x (A2 hx);clear hx hA;generalize pr x=b at*
 repeat' first|refine kS ?_|refine qS (iy hr) ?_|refine qS (Qe0 hf c rfl rfl) ?_|refine kU ?_|refine kV ?_ ?_<;>intro q|fail
 all_goals first|exact Qn (l.length -(k+1)) (by omega) ⟨k+1,by omega,rfl,Pm.hid (T.out (by assumption)),by simp[keepE,go_sem]⟩|refine QY (hx:=?_);rw[F.out (by assumption)]
def Qlo(l:List (List UInt8))(hl:l.length<=1000000)(f:FuncId)(pr:List UInt8->Bool)(hf: ∀args w,(callFunc f args).run A0 w= .ok (.enter f args) w)(h: ∀p∈l,Pure A0 f [dS p] (dB (pr p))):
 PureF A0 64 [.d (tStrs l),.fn (.func f) []] (dB (l.any pr)):=by
 have c:=Qqs l hl f pr hf h;have hd:=Pm.hid (Quf l pr);generalize Qc0 l pr=i at*;refine kF ?_
 repeat' first|refine kS ?_|refine qS (QdX cK c rfl rfl) ?_|refine kU ?_|fail
 refine QY (hx:=?_);rw[<-hd.out]
def Qu2(s:List UInt8)(hs:s.length<=1000000):Pure A0 65 [dS s] (dB (!Qac s)):=by
 have c:=bNameOk s hs;refine kB ?_
 repeat refine kA ?_
 exact Qb (hx:=rfl)
def Qb1(l:List (List UInt8)):List UInt8:=47::QW 47 l
def Qj8(l:List (List UInt8))(hl:l.length<=1000000)(hs: ∀x∈l,x.length<=1000000):Pure A0 56 [tStrs l] (dS (Qb1 l)):=by
 have hj:=Qji 47 l 1000000 hs
 have hjl:(QW 47 l).length<=140737488355328:=by
  omega
 have c:=bJoin l 47 (by omega) hjl;clear hj;unfold Qb1;generalize QW 47 l=j at*;refine kB ?_
 repeat' first|refine kS ?_|refine qS (Qdg (l:=[47]) rfl rfl (by simp;omega)) ?_|refine kU ?_|fail
 exact Qb (hx:=rfl)
def Qad(l:List (List UInt8)):List UInt8×Bool:=if decide (l.length<=4)&&l.all Qac then(Qb1 l,true) else([],false)
theorem any_not(l:List (List UInt8)):(l.any fun s=> !Qac s)= !l.all Qac:=by
 grind
def bPathOf(l:List (List UInt8))(hl:l.length<=1000000)(hs: ∀x∈l,x.length<=1000000):Pure A0 33 [tStrs l] (.tup [dS (Qad l).1,dB (Qad l).2]):=by
 have c1:=Qlo l hl 65 (fun s=> !Qac s) Tryz.call65 fun p hp=>Qu2 p (hs p hp)
 have c2:=Qj8 l hl hs;rw[any_not] at c1;have hd:=Pm.hid (Qad.eq_def l);generalize Qad l=res at*;generalize l.all Qac=o at*;generalize Qb1 l=t at*;have g1:AF (l.length<=4->o=true->res=(t,true)):=Pm.hid fun h1 h2=>by rw[hd.out,h2,decide_eq_true h1];rfl
 have g2:AF (¬l.length<=4->res=([],false)):=Pm.hid fun h1=>by rw[hd.out,decide_eq_false h1];rfl
 have g3:AF (o=false->res=([],false)):=Pm.hid fun h2=>by rw[hd.out,h2,Bool.and_false];rfl
 clear hd;refine kB ?_
 repeat' first|refine kS ?_|refine qS (QdX cK c1 rfl rfl) ?_|refine kU ?_|refine kV ?_ ?_<;>intro q|fail
 all_goals
  refine Qb (hx:=?_);simp only[decide_eq_true_eq,decide_eq_false_iff_not,Bool.not_eq_true',Bool.not_eq_false'] at*
  first|rw[g2.out (by omega)];done|rw[g2.out (by omega)];rfl|rw[g3.out (by assumption)];done|rw[g3.out (by assumption)];rfl|rw[g1.out (by omega) (by assumption)];done|rw[g1.out (by omega) (by assumption)];rfl
theorem Qm4(s:List UInt8)(hs:s.length<=1000000000000):Pure A0 174 [dS s,dS [47]] (dB (decide (s.head? =some 47))):=by
 cases s with
 |nil=>
  refine kB ?_
  repeat refine kA ?_
  exact Qb (hx:=rfl)
 |cons c r=>
  have hd:AF (decide ((c::r).head? =some 47)=((c::r).take 1==[47])):=Pm.hid (by grind);refine kB ?_
  repeat' first|refine kS ?_|refine qS (Qfx rfl rfl rfl (by simp) (by grind)) ?_|refine qS (Qdo (m:=[47]) rfl rfl) ?_|refine kU ?_|refine kV ?_ ?_<;>intro q|fail
  all_goals first
   |(exfalso;simp at*;omega)
   |(refine Qb (hx:=?_)
     rw[hd.out]
     simp_all)
theorem QnR(s:List UInt8)(hs:s.length<=1000000000000):Pure A0 116 [dS s,dS [47]] (.tup [dS (if s.head? =some 47 then s.drop 1 else s),dB (decide (s.head? =some 47))]):=by
 have c:=Qm4 s hs;have h1:s.head? =some 47->1<=s.length:=fun h=>by grind
 by_cases h:s.head? =some 47
 ·have h1:=h1 h
  rw[decide_eq_true h] at*;rw[if_pos h];refine kB ?_
  repeat' first|refine kS ?_|refine qS (Qfw rfl rfl rfl (by simp) (by simp;omega)) ?_|refine kU ?_|fail
  exact Qb (hx:=rfl)
 ·rw[decide_eq_false h] at*
  rw[if_neg h];refine kB ?_
  repeat refine kA ?_
  exact Qb (hx:=rfl)
def Qkx(s:List UInt8)(hs:s.length<=1000000000000):Pure A0 62 [dS s,dS [47]] (.tup [dS (if s.head? =some 47 then s.drop 1 else s),dB (decide (s.head? =some 47))]):=by
 have c:=QnR s hs;generalize (if s.head? =some 47 then s.drop 1 else s)=r at*;refine kB ?_
 repeat refine kA ?_
 exact Qb (hx:=rfl)
theorem QpQ(b:UInt8)(l:List (List UInt8))(m:Nat)(h: ∀x∈l,x.length<=m)(hn:l≠[]):(QW b l).length+1<=l.length*(m+1):=by
 induction l with
 |nil=>grind
 |cons a l ih=>
  have h1:=h a AR;cases l with
  |nil=>simp[QW];omega
  |cons c l=>
   have ih:=ih (fun x hx=>h x (AL _ hx)) (by simp);have e:QW b (a::c::l)=a++b::QW b (c::l):=by simp[QW,List.intersperse]
   rw[e,AC,A6,A6,Nat.succ_mul];omega
theorem Qgd{s:List UInt8}(h:20<s.length):Qz s=none:=by
 unfold Qz;rw[if_neg (by grind),if_neg];rintro⟨h1,h2,h3⟩;cases s with
 |nil=>cases h1
 |cons c r=>
  obtain rfl:c=47:=by grind
  rw[Qgq,Ai] at h2 h3
  have:=QpQ 47 (Pl.cutB 47 r) 4 (fun x hx=>by
   have:=Ac.1 h2 x hx;unfold Qac at this
   grind) (Pl.QgY 47 r)
  rw[Qhr] at this
  grind
theorem Qhi(r:List UInt8):Qz (47::r)=if r=[] then some [] else if(Qad (Pl.cutB 47 r)).2 then some (Pl.cutB 47 r) else none:=by
 unfold Qz Qad;rw[Qgq,Ai]
 grind
theorem Qqr(s:List UInt8)(hs:s.length<=1000000000000):Pure A0 32 [dS s] (.tup [tStrs ((Qz s).getD []),dB (Qz s).isSome]):=by
 have c1:=Qkx s hs
 by_cases h47:s.head? =some 47
 rotate_left
 ·have hx:AF (Qz s=none):=Pm.hid (by unfold Qz;grind)
  have hs47:(s==[47])=false:=by
   grind
  rw[decide_eq_false h47,if_neg h47] at c1;generalize Qz s=res at*;refine kB ?_
  repeat' first|refine kS ?_|refine qS (Qdo (m:=[47]) rfl rfl) ?_|refine kU ?_|refine kV ?_ ?_<;>intro q|fail
  all_goals first
   |(exfalso;simp_all;done)
   |(refine Qd7 2 true 1 (h:=?_)
     refine Qb (hx:=?_)
     first|(rw[hx.out];done)|(rw[hx.out];rfl))
 obtain⟨r,rfl⟩: ∃r,s=47::r:=by
  cases s with
  |nil=>cases h47
  |cons c r=>grind
 rw[decide_eq_true h47,if_pos h47] at c1;simp only[List.drop_succ_cons,List.drop_zero] at c1;have hd:=Pm.hid (Qhi r)
 by_cases h20:(47::r).length<=20
 rotate_left
 ·have hx:=Pm.hid (Qgd (s:=47::r) (by omega))
  have hne:r≠[]:=by grind
  generalize Qz (47::r)=res at*;clear hd;refine kB ?_
  repeat' first|refine kS ?_|refine qS (Qdo (m:=[47]) rfl rfl) ?_|refine kU ?_|refine kV ?_ ?_<;>intro q|fail
  all_goals first
   |(exfalso;simp_all;done)
   |(exfalso;simp at*;omega)
   |(refine Qd7 2 true 1 (h:=?_)
     refine Qb (hx:=?_)
     first|(rw[hx.out];done)|(rw[hx.out];rfl))
 have hrl:r.length<=19:=by grind
 have c2:=bSplit r 47 (by omega);have hcl:=QdT 47 r;have c3:=bPathOf (Pl.cutB 47 r) (by omega) (fun x hx=>by grind)
 have ht:AF ((Qad (Pl.cutB 47 r)).2=true->(Qad (Pl.cutB 47 r)).1=47::r):=Pm.hid fun h=>by
  unfold Qad at h⊢;split at h
  ·rename_i h2;rw[if_pos h2];show 47::QW 47 _=_;rw[Qhr]
  ·cases h
 clear hcl;generalize Qz (47::r)=res at*;generalize Pl.cutB 47 r=l at*;generalize Qad l=po at*;obtain⟨again,fine⟩:=po;simp only at ht hd c3;have hrs:((47::r)==[47])=decide (r=[]):=by grind
 cases fine
 all_goals
  refine kB ?_
  repeat' first|refine kS ?_|refine qS (Qdo (l:=47::r) (m:=[47]) rfl rfl) ?_|refine qS (QdB (m:=47::r) rfl rfl) ?_|refine kU ?_|refine kV ?_ ?_<;>intro q|fail
 all_goals first
  |(exfalso;simp at*;omega)
  |(refine Qd7 2 true 1 (h:=?_)
    refine Qb (hx:=?_)
    first
     |(exfalso;have h9:=ht.out rfl;clear ht;simp_all;done)
     |(have h9:=hd.out;grind)
     |(have h9:=hd.out;clear hd ht;simp_all;rfl))
  |(refine Qb (hx:=?_)
    have h9:=hd.out
    grind)
