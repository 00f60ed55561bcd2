/- Of ftw_card; no condition. -/
import Derived.Test.YthbonbflkdonkaaGreatDoorP25
import Derived.Test.YthbonbflkdonkaaGreatDoorP28
import Derived.Laws.RangeAny
set_option linter.all false
set_option maxRecDepth 100000
set_option maxHeartbeats 8000000
open Bool renaming and_eq_true->AE,eq_iff_iff->AO,true_and->Ah
open Go.Lib renaming compareBytes->A2,cut->AA,idxFuncFrom->AP,idxFunc->AS,repeatL->Ak
open Go.Op renaming bytesLess->A3
open Go.Proofs.Tryz renaming prog->A1,ntmps207->AW,func207->Aa
open Go.RowKit renaming Hid->AI
open Int renaming toNat_natCast->AK,eq_ofNat_of_zero_le->AL
open List renaming getElem?_eq_getElem->A0,mem_of_getElem?->A4,getD_eq_getElem?_getD->A5,getElem?_eq_some_iff->A6,mem_append->A7,getElem_of_mem->A8,replicate->A9,mem_cons_self->AB,take_add_one->AC,take_length->AD,findIdx?_eq_some_iff_getElem->AF,all_eq_true->AG,mem_cons_of_mem->AH,length_map->AJ,length_cons->AM,mem_map->AN,mem_iff_getElem?->AR,replicate_succ->AT,takeWhile_cons->AU,mem_cons->AX,length_append->AY,mem_singleton->AZ,drop_length->Ab,length_take->Ac,append_nil->Ae,length_nil->Af,range->Ag,all_map->Ai
open Nat renaming min_eq_left->Ad,zero_add->Aj
open Option.some renaming inj->AQ,injEq->Al
namespace Go.Proofs.YthbonbflkdonkaaGreatDoor
noncomputable section
section
open Go.RowKit
namespace Aw
variable{name:List UInt8}
attribute [local irreducible] ASeq ADraw AWP Loc AStep
def Qa2(l:List Qm)(name:List UInt8):Int:=match l.findIdx? (fun e=>e.1==name) with
 |some i=>(i:Int)
 |none=> -1
theorem Qml{l:List Qm}(h:l.find? (fun e=>e.1==name)=none):Qa2 l name= -1:=by grind [Qa2]
theorem Qmk{l:List Qm}{e:Qm}(h:l.find? (fun e=>e.1==name)=some e): ∃i:Nat,Qa2 l name=i/\l[i]? =some e:=by
 obtain⟨h1,l1,bs,rfl,h2⟩:=List.find?_eq_some_iff_append.1 h;refine⟨l1.length,?_,by simp⟩
 grind [Qa2]
theorem al12At(l:List Qm)(name:List UInt8)(hl:l.length<=1000):Pure A1 169 [dEnts l,dS name] (dI (Qa2 l name)):=by
 refine kB ?_
 repeat refine kA ?_
 refine Qq (fun m st=> ∃k:Nat,k<=l.length/\m=l.length -k/\AI (∀x∈l.take k,(x.1==name)=false)/\st=⟨20,[(5,.d (dI k)),(0,.d (dEnts l)),(1,.d (dS name))],[]⟩) [5,0,1] 0 l.length ⟨0,by omega,rfl,Pm.hid (by simp),rfl⟩ (round:=?_);rintro m st ⟨k,hk,rfl,hA,rfl⟩
 repeat refine kG ?_
 cases q3:decide ((k:Int)<(l.length:Int))
 ·repeat refine kA ?_
  refine Qb (hx:=?_);have:k=l.length:=by simp at q3;omega
  have h:=hA.out;rw[this,AD] at h;rw[Qml (by rw[List.find?_eq_none];intro x hx;rw[h x hx];simp)]
 have hk2:k<l.length:=by simp at q3;omega
 obtain⟨x,hx⟩: ∃x,l[k]? =some x:=⟨_,A0 hk2⟩;have hr:=Qs (f:=rEnt) hx
 have T:AI ((x.1==name)=false-> ∀y∈l.take (k+1),(y.1==name)=false):=Pm.hid fun h y hy=>by
  rw[AC,hx] at hy;rcases A7.1 hy with hy|hy
  ·exact hA.out y hy
  ·simp at hy;subst hy;exact h
 have F:AI ((x.1==name)=true->Qa2 l name=k):=Pm.hid fun h=>by
  have:l.findIdx? (fun e=>e.1==name)=some k:=by
   rw[AF];refine⟨hk2,?_,fun j hj=>?_⟩
   ·rw[(A6.1 hx).2];exact h
   ·have:=hA.out l[j] (AR.2 ⟨j,by rw[List.getElem?_take,if_pos hj];exact A0 (by omega)⟩)
    rw[this];simp
  unfold Qa2;rw[this]
 clear hx hA
 repeat' first|refine kS ?_|refine qS (iy hr) ?_|refine kU ?_|refine kV ?_ ?_<;>intro q|fail
 all_goals first|exact Qg (l.length -(k+1)) (by omega) ⟨k+1,by omega,rfl,Pm.hid (T.out (by assumption)),rfl⟩|refine Qb (hx:=?_);rw[F.out (by assumption)]
def Qae(s:Pm.Store)(t:Pl.Tree)(q:List (List UInt8)):Int:=(Qa1 s (Qh s t) 0 q).getD (-1)
theorem QoG(s:Pm.Store)(hg:QU s)(t:Pl.Tree)(ht:Qx t)(q:List (List UInt8))(hq:q.length<=1000):Pure A1 218 [dSt s,dTree t,dStrs q] (dI (Qae s t q)):=by
 have hd:AI (Qae s t q=(Qa1 s (Qh s t) 0 q).getD (-1)):=Pm.hid rfl;have c1:=Pm.hid fun k=>al11Get s hg t ht k
 have hnn:=Pm.hid fun k=>QhI s ht k
 have c2:=Pm.hid fun n=>Qjs s hg n
 generalize Qh s t=ns at*;refine kE ?_;refine Qa 0 (h:=?_);refine Qa 1 (h:=?_)
 repeat refine kA ?_
 refine Qq (fun m st=> ∃(k i:Nat),k<=q.length/\m=q.length -k/\AI (Qa1 s ns 0 q=Qa1 s ns i (q.drop k))/\st=⟨51,[(7,.d (dI i)),(8,.d (dI k)),(2,.d (dStrs q)),(3,.d (.pd (rSt s))),(4,.d (.pd (rTree t)))],[.row 1 [],.row 1 []]⟩) [7,8,2,3,4] 2 q.length ⟨0,0,by omega,rfl,Pm.hid rfl,rfl⟩ (round:=?_);rintro m st ⟨k,i,hk,rfl,hF,rfl⟩
 repeat refine kG ?_
 cases q3:decide ((k:Int)<(q.length:Int))
 ·repeat refine kA ?_
  refine Qb (hx:=?_);have:k=q.length:=by simp at q3;omega
  have h:=hF.out;rw[this,Ab] at h;rw[hd.out,h];rfl
 have hk2:k<q.length:=by simp at q3;omega
 obtain⟨x,hx⟩: ∃x,q[k]? =some x:=⟨_,A0 hk2⟩;have hr:=Qs (f:=fun s=>[dS s]) hx
 have hF2:AI (Qa1 s ns 0 q=match(Qf s (ns.getD i Qd)).1.find? (fun e=>e.1==x) with|none=>none|some e=>Qa1 s ns e.2 (q.drop (k+1))):=Pm.hid (by
  rw[hF.out,Qhf hx];exact QeA (Qf s) ns i x _)
 have c1k:=c1.out i;have hn:=hnn.out i;have hel:=Qe6 s (ns.getD i Qd);have heb:=Qhd s (ns.getD i Qd);have hec:=Qd4 s (ns.getD i Qd);have c2k:=c2.out (ns.getD i Qd);rw[<-hn] at c2k hel heb hec hF2;clear hx hF hn c1 c2 hnn;generalize Q5 s t i=na at*;obtain⟨⟨kind,links,size,⟨⟨p1,p2,p3,p4,p5⟩,depth,many⟩⟩,nok⟩:=na;simp only at c2k hel heb hec hF2;generalize Qf s ⟨kind,links,size,⟨⟨p1,p2,p3,p4,p5⟩,depth,many⟩⟩=ee at*;obtain⟨es,ok⟩:=ee;simp only at hel heb hec hF2;have c3:=(al12At es x (by omega)).arg (l:=[tEnts es,dS x]);cases hf:es.find? (fun e=>e.1==x) with
 |none=>
  rw[Qml hf] at c3;have hx:AI (Qae s t q= -1):=Pm.hid (by rw[hd.out,hF2.out,hf];rfl);clear hF2 hd hec heb hf
  repeat' first|refine kS ?_|refine qS (iy hr) ?_|refine kU ?_|refine kV ?_ ?_<;>intro q|fail
  all_goals first|exfalso;simp at*;done|refine Qb (hx:=?_);rw[hx.out]
 |some e=>
  obtain⟨j,hj,hje⟩:=Qmk hf;rw[hj] at c3
  have hok:ok=true:=by
   rcases hec with h|h
   ·exact h.1
   ·obtain⟨rfl,rfl⟩:=Prod.mk.inj h;cases hf
  subst hok;have hre:=Qs (f:=rEnt) hje;have heb2:=heb e (A4 hje);have hT:AI (Qa1 s ns 0 q=Qa1 s ns (e.2.toNat:Nat) (q.drop (k+1))):=Pm.hid (by rw[hF2.out,hf];simp only;rw[show((e.2.toNat:Nat):Int)=e.2 by omega]);clear hF2 hd hec heb hf hj hje;obtain⟨nm,id⟩:=e;obtain⟨id,rfl⟩:=AL (show 0<=id by have:=heb2.2.1;omega);simp only[AK] at hT
  repeat' first|refine kS ?_|refine qS (iy hr) ?_|refine qS (iy hre) ?_|refine kU ?_|fail
  all_goals first|exact Qg (q.length -(k+1)) (by omega) ⟨k+1,id,by omega,rfl,Pm.hid hT.out,rfl⟩|exfalso;simp only[decide_eq_true_eq] at*;omega
end Aw
end
section
namespace Aw
variable{p:Pl.Ptr}{t:Pl.Tree}{k:Nat}{α:Type}
def below4P{s:Pm.Store}{n:Int}(h:(Qj s p n).2=true):(Qj s p n).1.length=4:=by
 unfold Qj at h⊢;split
 ·simp
 ·rename_i h1
  rw[if_neg h1] at h;split at h
  ·rename_i h2
   rw[if_pos h2];split at h
   ·cases h
   ·rename_i h3;rw[if_neg h3];exact Qok h
  ·cases h
theorem QnT(s:Pm.Store): ∀(n:Nat) (l:List Pl.Ptr),(Qbb s n l).2=true->(Qbb s n l).1.length=l.length*4^n
 |0,l,_=>by simp[Qbb]
 |n+1,l,h=>by
  unfold Qbb at h⊢;split at h
  ·rename_i h1
   rw[if_pos h1,QnT s n _ h,Qr4 _ l fun p hp=>below4P (AG.1 h1 p hp)]
   grind
  ·cases h
theorem Qe3{s:Pm.Store}(h:QL s t=true):t.many.toNat<=(QH s t).1.length/\(∀p∈(QH s t).1,Pl.ptrHole p=true∨(Qi s.1 p).2=true)/\Pl.ptrOk t.root=true:=by
 unfold QL at h;simp only[AE,beq_iff_eq] at h;obtain⟨⟨⟨⟨h1,h2⟩,h3⟩,h4⟩,h5⟩:=h;refine⟨?_,fun p hp=>?_,h3⟩
 ·have:=QnT s t.depth.toNat [t.root] h4
  unfold QH;rw[this,h2];simp[Pl.inR] at h1
  grind
 ·obtain⟨i,hi,rfl⟩:=A8 hp
  rw[AG] at h5;have:=h5 ((QH s t).1[i],i) (List.mk_mem_zipIdx_iff_getElem?.2 (A0 hi));unfold Qat at this
  grind
def Qe5{s:Pm.Store}(h:QL s t=true):(QX s t).1.map (fun p=>(Qi s.1 p).1)=Qc s t:=by
 unfold QX Qc Qe;rw[if_pos h,List.take_append_of_le_length (Qe3 h).1]
theorem QsZ{rows:List (List UInt8)}(h:Pl.ptrHole p=true):Qi rows p=([],true):=by unfold Qi;grind
theorem QeS{s:Pm.Store}(h:QL s t=true): ∀p∈(QX s t).1,Pl.ptrOk p=true/\((Qi s.1 p).1=[]↔Pl.ptrHole p=true):=by
 intro p hp
 have hp':p∈(QH s t).1:=by
  unfold QX at hp
  grind
 have hok:=QiE s (Qe3 h).2.2 p hp';refine⟨hok,fun e=>?_,fun e=>by rw[QsZ e]⟩;rcases(Qe3 h).2.1 p hp' with h1|h1
 ·exact h1
 ·by_cases hh:Pl.ptrHole p=true
  ·exact hh
  ·exfalso
   unfold Qi at e h1;rw[if_neg hh] at e h1;split at h1
   ·rename_i hf
    rw[if_pos hf] at e;simp only at e;rw[e] at hf;unfold QaX at hf;simp only[AE,beq_iff_eq] at hf;have hs:p.size=0:=by grind
    have hok2:=hok;unfold Pl.ptrOk at hok2
    grind
   ·cases h1
theorem QeJ{s:Pm.Store}(h:QL s t=true):(QX s t).1.length=t.many.toNat/\t.many.toNat<=16:=by
 have h1:=(Qe3 h).1;have h2:=Qdx h;have:=h2.manyHi;unfold QX
 grind
def QaK(x:List UInt8):D:=if x=[] then .v (.pointer none) else .pd (rNode (Qo x).1)
abbrev tNds(l:List (List UInt8)):D:= .sl true 1 (l.map fun x=>[QaK x])
theorem QmB:Qo []=(Qd,false):=Ql7 fun p hp=>Qq5 hp.2 rfl
theorem Qle{p:α->Bool}{l:List α}{x:α}(hx:l[k]? =some x)(h:(l.take k).all p=true)(hp:p x=true):(l.take (k+1)).all p=true:=by
 rw[AC,hx,List.all_append,h];grind
theorem Qmo{p:α->Bool}{l:List α}{x:α}(hx:l[k]? =some x)(hp:p x=false):l.all p=false:=by
 grind
end Aw
end
section
open Go.RowKit
namespace Aw
variable{k j:Nat}{α:Type}{out:List Qm}{rest:List UInt8}{t:Pl.Tree}{M:Int}{m:List Int}
attribute [local irreducible] ASeq ADraw AWP Loc
theorem set_mid{A R:List α}{a v:α}(h:A.length=k):(A++a::R).set k v=A++v::R:=by subst h;simp
theorem get_mid{A R:List α}{a:α}(h:A.length=k):(A++a::R)[k]? =some a:=by grind
theorem bNodes(s:Pm.Store)(hg:QU s)(htx:0<=s.2.2.1)(t:Pl.Tree):Pure A1 79 [.pd (rSt s),dTree t] (.tup [tNds (if Qav s t then Qc s t else []),dB (Qav s t)]):=by
 have c1:=bLeaves s hg htx t;have hd:AI (Qav s t=(QL s t&&(Qc s t).all fun x=>(x==[])||((Qo x).2&&QL s (Qo x).1.tree))):=Pm.hid rfl;have hlv:AI (∀t,QL s t=(QX s t).2):=Pm.hid fun t=>by unfold QX;split<;>simp_all
 cases ht:QL s t
 ·have e:QX s t=([],false):=by unfold QX;rw[if_neg (by rw[ht];simp)]
  rw[e] at c1;have hno:Qav s t=false:=by rw[hd.out,ht];rfl
  rw[hno];refine kE ?_;refine Qa 0 (h:=?_)
  repeat refine kA ?_
  refine QdT 4 true 1 (h:=?_);exact Qb (hx:=rfl)
 have e2:(QX s t).2=true:=by rw[<-hlv.out,ht]
 have hlen:=QeJ ht;have hho:=Pm.hid (QeS ht);have htx2:=Pm.hid (Qe5 ht);rw[ht,Ah] at hd;rw[e2] at c1;rw[<-hlen.1] at hlen;generalize (QX s t).1=l at*;have hl16:l.length<=16:=hlen.2
 have hNo:AI (∀(k:Nat) p,l[k]? =some p->(((Qi s.1 p).1==[])||((Qo (Qi s.1 p).1).2&&QL s (Qo (Qi s.1 p).1).1.tree))=false->Qav s t=false):=Pm.hid fun k p hk h=>by
  rw[hd.out,<-htx2.out,Ai];exact Qmo hk h
 have hYes:AI (l.all (fun p=>((Qi s.1 p).1==[])||((Qo (Qi s.1 p).1).2&&QL s (Qo (Qi s.1 p).1).1.tree))=true->Qav s t=true/\(Qc s t).map (fun x=>[QaK x])=l.map (fun p=>[QaK (Qi s.1 p).1])):=Pm.hid fun h=>by
  rw[hd.out,<-htx2.out,Ai,List.map_map];exact⟨h,rfl⟩
 clear hd htx2 hlen e2 ht;generalize hres:Qav s t=res at*;generalize hrt:Qc s t=txs at*;clear hres hrt;refine kE ?_;refine Qa 0 (h:=?_)
 repeat' first|refine kS ?_|refine stepS2 (Qib Ty.h rfl Ty.h rfl rfl rfl (by simp;omega) (by omega)) (k:=?_)|refine kU ?_|fail
 refine Qq (fun m st=> ∃(k:Nat) (rows:List (List D)),k<=l.length/\m=l.length -k/\rows.length=l.length/\AI (rows=(l.take k).map (fun p=>[QaK (Qi s.1 p).1])++A9 (l.length -k) [D.v (.pointer none)])/\
  AI ((l.take k).all (fun p=>((Qi s.1 p).1==[])||((Qo (Qi s.1 p).1).2&&QL s (Qo (Qi s.1 p).1).1.tree))=true)/\
  st=⟨64,[(0,.d (.pd (rSt s))),(28,.d (tPtrs l)),(29,.d (dI l.length)),(30,.d (dI k)),(8,.osl 1 0 0 l.length)],[.row 1 [],.arr 0 1 69 rows]⟩) [0,28,29,30,8] 2 l.length
  ⟨0,A9 l.length [D.v (.pointer none)],by omega,rfl,by simp,Pm.hid (by simp),Pm.hid rfl,by simp[keepE,go_sem]⟩ (round:=?_)
 rintro m st ⟨k,rows,hk,rfl,hlen,hR,hA,rfl⟩
 repeat refine kG ?_
 cases q4:decide ((k:Int)<(l.length:Int))
 ·repeat refine kA ?_
  refine Qa 1 (h:=?_);refine Qb (hx:=?_);have:k=l.length:=by simp at q4;omega
  subst this;rw[AD] at hA hR;obtain⟨r1,r2⟩:=hYes.out hA.out;rw[r1,if_pos rfl];show _=D.tup [D.sl true 1 (txs.map fun x=>[QaK x]),_];rw[r2,<-hlen,AD,hR.out];simp
 have hk2:k<l.length:=by simp at q4;omega
 obtain⟨x,hx⟩: ∃x,l[k]? =some x:=⟨_,A0 hk2⟩;have hr:=Qs (f:=rPtr) hx;obtain⟨ho1,ho2⟩:=hho.out x (A4 hx);have c2:=Qey x;have c3:=bRead s hg x fun _=>ho1
 have c4:=QtV (Qi s.1 x).1 (by have:=Qiy s hg x;unfold Pm.big;omega);have c5:=bLeaves s hg htx (Qo (Qi s.1 x).1).1.tree;have hlt:=hlv.out (Qo (Qi s.1 x).1).1.tree;have hBad:=Pm.hid (hNo.out k x hx);have hGood:AI ((((Qi s.1 x).1==[])||((Qo (Qi s.1 x).1).2&&QL s (Qo (Qi s.1 x).1).1.tree))=true->(l.take (k+1)).all (fun p=>((Qi s.1 p).1==[])||((Qo (Qi s.1 p).1).2&&QL s (Qo (Qi s.1 p).1).1.tree))=true):=Pm.hid fun h=>Qle hx hA.out h
 have hstep:AI (rows.set k [QaK (Qi s.1 x).1]=(l.take (k+1)).map (fun p=>[QaK (Qi s.1 p).1])++A9 (l.length -(k+1)) [D.v (.pointer none)]):=Pm.hid (by
  have e1:l.length -k=(l.length -(k+1))+1:=by omega
  rw[hR.out,e1,AT,set_mid (by rw[AJ,Ac,Ad hk]),AC,hx,List.map_append,List.append_assoc];rfl)
 have hrow:rows[k]? =some [D.v (.pointer none)]:=by
  have e1:l.length -k=(l.length -(k+1))+1:=by omega
  rw[hR.out,e1,AT,get_mid (by rw[AJ,Ac,Ad hk])]
 have hsame:rows.set k [D.v (.pointer none)]=rows:=by
  apply List.ext_getElem?;intro j
  by_cases hj:k=j
  ·subst hj;rw[List.getElem?_set_self (by omega),hrow]
  ·rw[List.getElem?_set_ne hj]
 have hnd:AI (QaK (Qi s.1 x).1=if(Qi s.1 x).1=[] then D.v (.pointer none) else .pd (rNode (Qo (Qi s.1 x).1).1)):=Pm.hid rfl;have hrow2:rows[0+((k:Nat):Int).toNat]? =some [D.v (.pointer none)]:=by simpa using hrow
 clear hx hho hA hYes hNo hlv hR;cases hh:Pl.ptrHole x;rotate_left
 ·have ht:=ho2.2 hh
  rw[hh] at c2
  repeat' first|refine kS ?_|refine qS (iy hr) ?_|refine kU ?_|fail
  refine Qg (l.length -(k+1)) (by omega) ⟨k+1,rows,by omega,rfl,hlen,Pm.hid ?_,Pm.hid (hGood.out (by rw[ht];rfl)),by simp[keepE,go_sem]⟩;rw[<-hstep.out,hnd.out,if_pos ht,hsame]
 rw[hh] at c2;have ht:(Qi s.1 x).1≠[]:=fun e=>by rw[ho2.1 e] at hh;cases hh
 rw[if_neg ht] at hnd;have hne:((Qi s.1 x).1==[])=false:=by simpa using ht
 rw[hne,Bool.false_or] at hBad hGood;clear ho1 ho2 hh hsame hne;generalize Qi s.1 x=rb at*;obtain⟨tx,fine⟩:=rb;simp only at*;generalize QX s (Qo tx).1.tree=lp at*;obtain⟨lp1,lp2⟩:=lp;simp only at hlt c5;rw[hlt] at hBad hGood;generalize QaK tx=ndx at*;generalize Qo tx=nn at*;obtain⟨⟨kind,links,size,⟨⟨p1,p2,p3,p4,p5⟩,depth,many⟩⟩,nok⟩:=nn;simp only at*
 repeat' first|refine kS ?_|refine qS (iy hr) ?_|refine(Qmh Ty.h rfl rfl hrow2 rfl (kk:=?_))|(show ASeq _ _ _ (⟨none,.store _ (.tmp 61) _,_,_,_,_⟩::_) _;refine Qew 3 (C:= .row 0 _) (h:=?_))|refine kU ?_|refine kV ?_ ?_<;>intro q|fail
 ·refine QdT 4 true 1 (h:=?_)
  refine Qb (hx:=?_);rw[hBad.out (by simp_all)];rfl
 ·refine QdT 4 true 1 (h:=?_)
  refine Qb (hx:=?_);rw[hBad.out (by simp_all)];rfl
 ·refine Qg (l.length -(k+1)) (by omega) ⟨k+1,rows.set k [ndx],by omega,rfl,by simpa using hlen,hstep,Pm.hid (hGood.out (by simp_all)),?_⟩
  rw[hnd.out];simp[keepE,go_sem]
def QhG: ∀c:Nat,Ak [0] c=A9 c 0
 |0=>rfl
 |c+1=>by rw[Ak,QhG c];rfl
def QtQ(c:Nat)(hc:c<=1000):Pure A1 92 [dS [0],dI c] (dS (A9 c 0)):=
 Qd5 (x:= .string ⟨(A9 c 0).toArray⟩) rfl fun w _=>(Tryz.strings_Repeat ⟨#[0]⟩ c w (by omega) (by show 1*c<=_;omega)).mono fun e w' h=>⟨by rw[<-QhG];exact h.1,h.2⟩
def Qmz(s:List UInt8):([0]:List UInt8).isSuffixOf s= !(QaQ s==s):=by
 rw[AO,List.isSuffixOf_iff_suffix];have:=Qsa s;rcases List.eq_nil_or_concat s with rfl|⟨l,c,rfl⟩
 ·simp[Qow]
 ·rw[List.concat_eq_append] at*
  have h1:([0]:List UInt8)<:+l++[c]↔c=0:=by
   constructor
   ·rintro⟨t,ht⟩
    have:=List.append_inj' ht rfl;have:=this.2;simp at this;exact this.symm
   ·rintro rfl;exact⟨l,rfl⟩
  rw[h1];simp only[List.getLast?_append,List.getLast?_singleton,Option.some_or,ne_eq,Al] at this
  by_cases hc:c=0
  ·simp[hc] at this⊢;exact this
  ·simp[hc] at this⊢;exact this
def QaY(size:Int)(k:Int):Int:=if 0<(if size -k*12<12 then size -k*12 else 12) then(if size -k*12<12 then size -k*12 else 12) else 0
def QpH(size:Int)(k:Nat)(h0:0<=size)(h1:size<=2048)(hk:k<=100):Pure A1 42 [dI size,dI k] (dI (QaY size k)):=by
 refine kB ?_
 repeat' first|refine kS ?_|refine qS (Qd3 rfl rfl (by omega)) ?_|refine qS (QmJ rfl rfl) ?_|refine qS (QmK rfl rfl) ?_|refine kU ?_|fail
 exact Qb (hx:=by unfold QaY;rfl)
theorem Qj3{size:Int}(h:(k:Int)*12<size):QaY size k=QaA size k:=by
 unfold QaY QaA;split<;>split<;>omega
def Qbi(s:List UInt8)(n:Int):List UInt8×Bool:=if Pl.inR n 0 12&&decide ((s.length:Int)<=n) then(s++A9 (n -s.length).toNat 0,true) else([],false)
def QpI(s:List UInt8)(n:Int)(hs:s.length<=1000000):Pure A1 41 [dS s,dI n] (.tup [dS (Qbi s n).1,dB (Qbi s n).2]):=by
 have hd:=Pm.hid (Qbi.eq_def s n);generalize Qbi s n=res at*;have c1:=bIn n 0 12;cases hi:Pl.inR n 0 12
 ·rw[hi] at c1 hd
  refine kB ?_
  repeat refine kA ?_
  refine Qb (hx:=?_);rw[hd.out];rfl
 rw[hi] at c1 hd;have hb:0<=n/\n<=12:=by simpa[Pl.inR] using hi
 by_cases hle:(s.length:Int)<=n
 rotate_left
 ·refine kB ?_
  repeat' first|refine kA ?_|refine kV ?_ ?_<;>intro q|fail
  all_goals first|refine Qb (hx:=?_);rw[hd.out,decide_eq_false hle];rfl|exfalso;simp at*;omega
 have c2:=QtQ (n -s.length).toNat (by omega);have e2:(((n -s.length).toNat:Nat):Int)=n -s.length:=by omega
 rw[e2] at c2;refine kB ?_
 repeat' first|refine kS ?_|refine qS (Qdf rfl rfl (by simp;omega)) ?_|refine kU ?_|refine kV ?_ ?_<;>intro q|fail
 all_goals first|refine Qb (hx:=?_);rw[hd.out,decide_eq_true hle];rfl|exfalso;simp at*;omega
def Qa4(x:Nat):Bool:=decide ((x:Int)<97)||decide ((x:Int)>122)
theorem Qt0(x:Nat)(w:World):Calls A1 207 #[.int .i32 x] w fun e w'=>e= .returned (.bool (Qa4 x))/\w=w':=by
 by_cases h1:(x:Int)<97
 ·have hf:=Pm.hid (show Qa4 x=true by simp[Qa4,h1])
  go_enter Aa,AW
  go_wp2
  go_ret
  exact⟨Pm.Qd1 hf.out.symm,rfl⟩
 ·by_cases h2:(x:Int)>122
  ·have hf:=Pm.hid (show Qa4 x=true by grind [Qa4])
   have h3:(122:Int)<x:=h2
   go_enter Aa,AW
   go_wp2
   go_ret
   exact⟨Pm.Qd1 (by rw[hf.out]),rfl⟩
  ·have hf:=Pm.hid (show Qa4 x=false by grind [Qa4])
   have h3: ¬(122:Int)<x:=h2
   go_enter Aa,AW
   go_wp2
   go_ret
   exact⟨Pm.Qd1 hf.out.symm,rfl⟩
theorem QiN(s:ByteArray): ∀(f pos:Nat),s.size<=pos+f->(AP Qa4 true s f pos<0↔ ∀i (h:i<s.size),pos<=i->Qbc s[i]=true)
 |0,pos,hf=>by
  grind [AP]
 |f+1,pos,hf=>by
  unfold AP;split
  ·rename_i hlt
   by_cases ha:(s[pos]'hlt).toNat<128
   ·rw[decode_ascii s pos hlt ha]
    by_cases hl:Qbc (s[pos]'hlt)=true
    ·have hb:Qa4 (s[pos]'hlt).toNat=false:=by
      grind [Qbc,Qa4]
     simp only[hb,Bool.false_eq_true,if_false];rw[QiN s f (pos+1) (by omega)]
     grind
    grind [Qa4,Qbc]
   grind [decode_high,Qa4,Qbc]
  grind
def QkK(s:List UInt8)(hs:s.length<=1000000):PureF A1 206 [.d (dS s),.fn (.func 207) []] (dI (AS Qa4 true ⟨s.toArray⟩)):=by
 intro B S w cargs hB hS hl hr
 match cargs,hl with
 |[a,b],_=>
  have h0:=hr 0 _ a rfl rfl;have h1:=hr 1 _ b rfl rfl;cases h0 with
  |d _ _ h0=>
   cases h0;cases h1 with
   |fn _ _ cs hl1 _=>
    obtain rfl:cs=[]:=List.length_eq_zero_iff.1 hl1.symm;refine(Tryz.strings_IndexFunc_runes 207 #[] Tryz.call207 Qa4 ⟨s.toArray⟩ w (fun W x _ _=>?_)).mono fun e w' h=>⟨_,h.1,h.2,.v _⟩
    exact(Qt0 x W).mono fun e w' h=>⟨h.1,0,by rw[<-h.2];rfl⟩
def Qpf(s:List UInt8):(decide (AS Qa4 true ⟨s.toArray⟩<0))=s.all Qbc:=by
 rw[AO,decide_eq_true_eq];unfold AS;rw[QiN _ _ 0 (by omega),AG];constructor
 ·intro h x hx
  obtain⟨i,hi,rfl⟩:=A8 hx;exact h i hi (Nat.zero_le _)
 ·intro h i hi _
  exact h _ (List.getElem_mem (show i<s.length from hi))
theorem bNameOk(s:List UInt8)(hs:s.length<=1000000):Pure A1 144 [dS s] (dB (Q9 s)):=by
 have hd:AI (Q9 s=(s.all Qbc&&Pl.inR s.length 1 4)):=Pm.hid (Ql9 s);have c1:=bIn s.length 1 4;have c2:=QkK s hs;rw[<-Qpf] at hd;generalize AS Qa4 true ⟨s.toArray⟩=ix at*;generalize Pl.inR s.length 1 4=o at*;refine kB ?_
 repeat' first|refine kS ?_|refine qS (Qd9 cK c2 rfl rfl) ?_|refine kU ?_|refine kV ?_ ?_<;>intro q|fail
 all_goals
  refine Qb (hx:=?_);rw[hd.out]
  simp_all
theorem QpR(l:List Qm)(hl:l.length<=Pm.big)(hs: ∀e∈l,e.1.length<=1000000):Pure A1 139 [dEnts l] (dB (Qaa l)):=by
 simp only[Pm.big] at hl;have hd:AI (Qaa l=((Ag l.length).all (QaE l)&&decide (l.length<=12))):=Pm.hid rfl;refine kB ?_
 repeat refine kA ?_
 refine Qq (fun m st=> ∃k:Nat,k<=l.length/\m=l.length -k/\AI ((Ag k).all (QaE l)=true)/\st=⟨41,[(5,.d (dEnts l)),(6,.d (dI l.length)),(7,.d (dI k)),(0,.d (dEnts l))],[]⟩) [5,6,7,0] 0 l.length ⟨0,by omega,rfl,Pm.hid rfl,by simp[keepE,go_sem]⟩ (round:=?_);rintro m st ⟨k,hk,rfl,hA,rfl⟩
 repeat refine kG ?_
 cases q3:decide ((k:Int)<(l.length:Int))
 ·repeat refine kA ?_
  refine Qb (hx:=?_);have:k=l.length:=by simp at q3;omega
  have h:=hA.out;rw[this] at h;rw[hd.out,h];refine congrArg dB ?_;simp;omega
 have hk2:k<l.length:=by simp at q3;omega
 obtain⟨x,hx⟩: ∃x,l[k]? =some x:=⟨_,A0 hk2⟩;have hr:=Qs (f:=rEnt) hx;obtain⟨y,hy⟩: ∃y,l[k -1]? =some y:=⟨_,A0 (by omega)⟩
 have hr2:AI (0<k->(l.map rEnt)[((k:Int) -1).toNat]? =some (rEnt y)):=fun h=>by
  rw[show((k:Int) -1).toNat=k -1 by omega,List.getElem?_map,hy];rfl
 have he:AI (QaE l k=(Q9 x.1&&Pl.inR x.2 1 15&&(decide (k=0)||A3 y.1 x.1))):=Pm.hid (by
  unfold QaE;simp only[A5,hx,hy,Option.getD_some])
 have T:AI (QaE l k=true->(Ag (k+1)).all (QaE l)=true):=fun h=>Pl.Qdo (p:=QaE l) hA.out h
 have F:AI (QaE l k=false->Qaa l=false):=fun h=>by
  rw[hd.out,Pl.Qdj (p:=QaE l) hk2 h];rfl
 have c1:=bNameOk x.1 (hs x (A4 hx));have c2:=bIn x.2 1 15;rw[he.out] at T F;clear hx hy hA hd he;generalize Q9 x.1=o1 at*;generalize Pl.inR x.2 1 15=o2 at*
 repeat' first|refine kS ?_|refine qS (iy hr) ?_|refine qD (Qdd Ty.h rfl Ty.h rfl rfl rfl (by simp only[decide_eq_true_eq] at*;omega) (hr2.out (by simp only[decide_eq_true_eq] at*;omega))) ?_|refine qD (QjB rfl rfl) ?_|refine kU ?_|refine kV ?_ ?_<;>intro q|fail
 all_goals clear c1 c2 hr hr2
 all_goals simp only[decide_eq_true_eq,decide_eq_false_iff_not] at*
 all_goals first|refine Qg (l.length -(k+1)) (by omega) ⟨k+1,by omega,rfl,Pm.hid (T.out ?_),by simp[keepE,go_sem]⟩;clear T F;simp_all;try omega|refine Qb (hx:=?_);rw[F.out ?_];clear T F;simp_all;try omega
def bCut(c:UInt8)(s:List UInt8)(hs:s.length<=4294967280):Pure A1 136 [dS s,dS [c]] (.tup [dS (AA s [c]).1,dS (AA s [c]).2.1,dB (AA s [c]).2.2]):=
 Qfe (xs:=[.string ⟨(AA s [c]).1.toArray⟩,.string ⟨(AA s [c]).2.1.toArray⟩,.bool (AA s [c]).2.2]) rfl fun w hL=>by
  obtain⟨m,hm⟩:=hL.maxl;refine(Tryz.strings_Cut ⟨s.toArray⟩ ⟨#[c]⟩ m w (by rw[Pm.Qjg];omega) hm).mono fun e w' ⟨he,n,hw⟩=>⟨?_,hw▸Pm.QgI w n⟩
  rw[he]
def Qcp(e:Qm):Prop:=(59:UInt8)∉e.1/\(61:UInt8)∉e.1/\0<=e.2/\e.2<1000000000
theorem QrH{e:Qm}(h:Qcp e):QaB (Qas e)=some e:=by
 obtain⟨h0,h1,h2,h3⟩:=h
 grind [QaB,Qas,Pl.Qel,Pl.Qe7,Qhi,Pl.Qd7]
theorem Qhe(rest:List UInt8): ∀{l:List Qm},(∀e∈l,Qcp e)->Pl.cutB 59 (QG l++rest)=l.map Qas++Pl.cutB 59 rest
 |[],_=>rfl
 |e::l,h=>by
  have h1:QG (e::l)++rest=Qas e++59::(QG l++rest):=by simp[QG]
  have hn:(59:UInt8)∉Qas e:=by
   unfold Qas;intro hm;rcases A7.1 hm with hm|hm
   ·exact(h e AB).1 hm
   grind [Qhi]
  rw[h1,Pl.Qel 59 _ _ hn,Qhe rest fun x hx=>h x (AH _ hx)];rfl
theorem eg_end{s:List UInt8}(hE: ∀e∈out,Qcp e)(hs:s=QG out):QbW s=if Qaa out=true then(out,true) else([],false):=by
 have hc:=Qhe [] hE;rw[Ae,<-hs] at hc
 rw[QrK (m:=out) (by grind [Pl.cutB]) fun i e he=>⟨Qas e,by
  grind,QrH (hE e (A4 he))⟩]
 simp[hs]
theorem eg_pre{s one tail:List UInt8}{p:List Qm}(hE: ∀e∈out,Qcp e)(hs:s=QG out++(one++59::tail))(hn:(59:UInt8)∉one)(h:QbB s p): ∃e,p[out.length]? =some e/\one=Qas e:=by
 have hc:=Qhe (one++59::tail) hE;rw[<-hs,<-h.2,Qid (ent_b h.1),Pl.Qel 59 _ _ hn] at hc;have hl:=congrArg List.length hc;have hne:=List.length_pos_iff.2 (Pl.QgH 59 tail);simp only[AY,AJ,AM,Af] at hl;have hi:=congrArg (fun l=>l[out.length]?) hc
 grind
theorem eg_cut0{s:List UInt8}(hE: ∀e∈out,Qcp e)(hs:s=QG out++rest)(hr:rest≠[])(h:(59:UInt8)∉rest):QbW s=([],false):=by
 refine Qon fun p hp=>hr ?_
 have hc:=Qhe rest hE;rw[<-hs,<-hp.2,Qid (ent_b hp.1),Pl.Qe7 59 _ h] at hc
 simp_all
structure EgStep(s rest:List UInt8)(out:List Qm)(w v:List UInt8×List UInt8×Bool)(g:Option Nat):Prop where
 bad:(w.2.2&&v.2.2&&g.isSome&&decide (out.length≠12))=false->QbW s=([],false)
 good:(w.2.2&&v.2.2&&g.isSome)=true->s=QG (out++[(v.1,((g.getD 0:Nat):Int))])++w.2.1/\Qcp (v.1,((g.getD 0:Nat):Int))/\w.2.1.length<rest.length
 l1:w.1.length<=rest.length
 l2:w.2.1.length<=rest.length
 l3:v.1.length<=rest.length
 l4:v.2.1.length<=rest.length
theorem eg_next{s:List UInt8}(hE: ∀e∈out,Qcp e)(hs:s=QG out++rest)(hr:rest≠[]):
 EgStep s rest out (AA rest [59]) (AA (AA rest [59]).1 [61]) (Pl.numGet (AA (AA rest [59]).1 [61]).2.1):=by
 have hlen: ∀(c:UInt8) (x:List UInt8),(AA x [c]).1.length<=x.length/\(AA x [c]).2.1.length<=x.length:=fun c x=>by
  by_cases h:c∈x
  ·grind [Pl.QeH,Pl.Qh6]
  grind [Pl.Qif]
 have g1:=hlen 59 rest;have g2:=hlen 61 (AA rest [59]).1;refine⟨?_,?_,g1.1,g1.2,by omega,by omega⟩
 ·intro hb
  by_cases h:(59:UInt8)∈rest
  ·obtain⟨one,tail,rfl,hn⟩:=Pl.QeH h
   rw[Pl.Qh6 hn] at hb;refine Qon fun p hp=>?_
   obtain⟨e,he,rfl⟩:=eg_pre hE hs hn hp;have hb2:=ent_b hp.1 e (A4 he);have hle:out.length<p.length:=(A6.1 he).1;have h12:p.length<=12:=by have:=hp.1;grind [Qaa]
   grind [Qas,Pl.Qh6,Qgi,Pl.Qd7]
  grind [eg_cut0]
 ·intro hb
  by_cases h:(59:UInt8)∈rest
  ·obtain⟨one,tail,rfl,hn⟩:=Pl.QeH h
   rw[Pl.Qh6 hn] at hb⊢;simp only at hb⊢
   by_cases h6:(61:UInt8)∈one
   ·obtain⟨a,b,rfl,hm⟩:=Pl.QeH h6
    rw[Pl.Qh6 hm] at hb⊢;simp only[Ah] at hb⊢;obtain⟨n,hg⟩:=Option.isSome_iff_exists.1 hb;obtain⟨rfl,hlt⟩:=Pl.QdC hg;rw[hg];refine⟨?_,⟨fun hc=>hn (List.mem_append_left _ hc),hm,by simp,by grind⟩,?_⟩
    ·rw[hs];simp[QG,Qas]
    grind
   grind [Pl.Qif]
  grind [Pl.Qif]
theorem Qnz(s:List UInt8)(hs:s.length<=1000000):Pure A1 82 [dS s] (.tup [tEnts (QbW s).1,dB (QbW s).2]):=by
 refine kB ?_
 repeat refine kA ?_
 refine QeW 4 2 154 (h:=?_)
 skip
 refine Qq (fun m st=> ∃(g:Nat) (out:List Qm) (rest:List UInt8),m=rest.length/\AI (s=QG out++rest)/\AI (∀e∈out,Qcp e)/\rest.length<=1000000/\out.length<=12/\AI (∀e∈out,e.1.length<=1000000)/\
  st=⟨61,[(4,.osl 0 g 0 out.length),(5,.d (dS rest))],[.arr g 2 154 (out.map rEnt)]⟩) [4,5] 1 s.length ⟨0,[],s,rfl,Pm.hid rfl,Pm.hid (by simp),hs,by simp,Pm.hid (by simp),rfl⟩ (round:=?_)
 rintro m st ⟨g,out,rest,rfl,hO,hE,hrl,hlen,hnl,rfl⟩
 repeat refine kG ?_
 by_cases hr:rest=[]
 ·subst hr
  have hg:=Pm.hid (eg_end (s:=s) hE.out (by rw[hO.out,Ae]));have ce:=(QpR out (by unfold Pm.big;omega) hnl.out).arg (l:=[tEnts out]);generalize QbW s=res at*;generalize Qaa out=o1 at*
  repeat refine kA ?_
  refine Qew 0 (h:=?_)
  repeat' first|refine kA ?_|refine kV ?_ ?_<;>intro q|fail
  ·refine QdT 2 true 2 (h:=?_)
   refine Qb (hx:=?_);rw[hg.out];simp_all
  ·refine Qb (hx:=?_)
   rw[hg.out];simp_all
 have hne:(!(rest==([]:List UInt8)))=true:=by simpa using hr
 have st:=eg_next hE.out hO.out hr;have c1:=bCut 59 rest (by omega);generalize AA rest [59]=w at*;obtain⟨one,tail,ok⟩:=w;have z1:one.length<=rest.length:=st.l1;have c2:=bCut 61 one (by omega);simp only at st;generalize AA one [61]=v at*;obtain⟨name,num,fine⟩:=v;have z2:name.length<=rest.length:=st.l3;have z3:num.length<=rest.length:=st.l4;have z4:tail.length<=rest.length:=st.l2;have c3:=bNumGet num (by unfold Pm.big;omega);have c4:=bClone name (by unfold Pm.big;omega);have F:=Pm.hid st.bad;have T:=Pm.hid st.good;clear st;simp only at F T c1 c2;generalize Pl.numGet num=gg at*;generalize gg.isSome=good at*;generalize hnv:gg.getD 0=nv at*
 have hq:((out.length:Int)==12)=decide (out.length=12):=by
  rw[AO];simp;omega
 generalize QbW s=res at*
 repeat' first|refine kS ?_|refine QV Ty.h rfl Ty.h (hb:=?_) (kk:=?_)|refine kU ?_|refine kV ?_ ?_<;>intro q|fail
 all_goals first
  |exact absurd (hne.symm.trans ‹_=false›) (by decide)
  |(refine QdT 2 true 2 (h:=?_)
    refine Qb (hx:=?_)
    rw[F.out (by simp_all)];rfl)
  |(simp;omega)
  |(exfalso;simp_all;done)
  |(obtain⟨t1,t2,t3⟩:=T.out (by simp_all)
    have h12:out.length≠12:=fun e=>absurd (‹((out.length:Int)==12)=false›) (by rw[hq];simp[e])
    refine Qg tail.length t3 ⟨g+1,out++[(name,(nv:Int))],tail,rfl,Pm.hid t1,Pm.hid ?_,by omega,by simp only[AY,AM,Af];omega,Pm.hid ?_,?_⟩
    ·intro e he
     rcases A7.1 he with h|h
     ·exact hE.out e h
     ·rw[AZ.1 h];exact t2
    ·intro e he
     rcases A7.1 he with h|h
     ·exact hnl.out e h
     ·rw[AZ.1 h];show name.length<=1000000;omega
    ·simp[keepE,go_sem])
def Qcv(l:List (List UInt8))(pr:List UInt8->Bool):Int:=match l.findIdx? pr with
 |some i=>(i:Int)
 |none=> -1
theorem Qt2(l:List (List UInt8))(pr:List UInt8->Bool):decide (Qcv l pr≥0)=l.any pr:=by
 unfold Qcv
 grind
theorem QpK(l:List (List UInt8))(hl:l.length<=1000000)(f:FuncId)(pr:List UInt8->Bool)(hf: ∀args w,(callFunc f args).run A1 w= .ok (.enter f args) w)(h: ∀p∈l,Pure A1 f [dS p] (dB (pr p))):
 PureF A1 205 [.d (tStrs l),.fn (.func f) []] (dI (Qcv l pr)):=by
 refine kF ?_
 repeat refine kA ?_
 refine Qq (fun m st=> ∃k:Nat,k<=l.length/\m=l.length -k/\AI (∀x∈l.take k,pr x=false)/\st=⟨19,[(8,.d (dI k)),(7,.d (dI l.length)),(0,.d (tStrs l)),(1,.fn (.func f) [])],[]⟩) [8,7,0,1] 0 l.length ⟨0,by omega,rfl,Pm.hid (by simp),by simp[keepE,go_sem]⟩ (round:=?_);rintro m st ⟨k,hk,rfl,hA,rfl⟩
 repeat refine kG ?_
 cases q3:decide ((k:Int)<(l.length:Int))
 ·repeat refine kA ?_
  refine QK (hx:=?_);have:k=l.length:=by grind
  have h:=hA.out;rw[this,AD] at h;have:l.findIdx? pr=none:=List.findIdx?_eq_none_iff.2 h;unfold Qcv;rw[this]
 have hk2:k<l.length:=by grind
 obtain⟨x,hx⟩: ∃x,l[k]? =some x:=⟨_,A0 hk2⟩;have hr:=Qs (f:=fun s=>[dS s]) hx
 have T:AI (pr x=false-> ∀y∈l.take (k+1),pr y=false):=Pm.hid fun h y hy=>by
  rw[AC,hx] at hy;rcases A7.1 hy with hy|hy
  ·exact hA.out y hy
  grind
 have F:AI (pr x=true->Qcv l pr=k):=Pm.hid fun h=>by
  have:l.findIdx? pr=some k:=by
   rw[AF];refine⟨hk2,?_,fun j hj=>?_⟩
   ·grind
   ·have:=hA.out l[j] (AR.2 ⟨j,by grind⟩)
    grind
  unfold Qcv;rw[this]
 have c:=h x (A4 hx);clear hx hA;generalize pr x=b at*
 repeat' first|refine kS ?_|refine qS (iy hr) ?_|refine qS (Qd6 hf c rfl rfl) ?_|refine kU ?_|refine kV ?_ ?_<;>intro q|fail
 all_goals first|exact Qg (l.length -(k+1)) (by omega) ⟨k+1,by omega,rfl,Pm.hid (T.out (by assumption)),by simp[keepE,go_sem]⟩|refine QK (hx:=?_);rw[F.out (by assumption)]
def QkL(l:List (List UInt8))(hl:l.length<=1000000)(f:FuncId)(pr:List UInt8->Bool)(hf: ∀args w,(callFunc f args).run A1 w= .ok (.enter f args) w)(h: ∀p∈l,Pure A1 f [dS p] (dB (pr p))):
 PureF A1 142 [.d (tStrs l),.fn (.func f) []] (dB (l.any pr)):=by
 have c:=QpK l hl f pr hf h;have hd:=Pm.hid (Qt2 l pr);generalize Qcv l pr=i at*;refine kF ?_
 repeat' first|refine kS ?_|refine qS (Qd9 cK c rfl rfl) ?_|refine kU ?_|fail
 refine QK (hx:=?_);rw[<-hd.out]
def QtT(s:List UInt8)(hs:s.length<=1000000):Pure A1 143 [dS s] (dB (!Q9 s)):=by
 have c:=bNameOk s hs;refine kB ?_
 repeat refine kA ?_
 exact Qb (hx:=rfl)
def Qcq(l:List (List UInt8)):List UInt8:=47::Qai 47 l
def Qme(l:List (List UInt8))(hl:l.length<=1000000)(hs: ∀x∈l,x.length<=1000000):Pure A1 145 [tStrs l] (dS (Qcq l)):=by
 have hj:=QiH 47 l 1000000 hs
 have hjl:(Qai 47 l).length<=140737488355328:=by
  omega
 have c:=bJoin l 47 (by omega) hjl;clear hj;unfold Qcq;generalize Qai 47 l=j at*;refine kB ?_
 repeat' first|refine kS ?_|refine qS (Qdf (l:=[47]) rfl rfl (by simp;omega)) ?_|refine kU ?_|fail
 exact Qb (hx:=rfl)
def Qb9(l:List (List UInt8)):List UInt8×Bool:=if decide (l.length<=4)&&l.all Q9 then(Qcq l,true) else([],false)
theorem any_not(l:List (List UInt8)):(l.any fun s=> !Q9 s)= !l.all Q9:=by
 grind
def bPathOf(l:List (List UInt8))(hl:l.length<=1000000)(hs: ∀x∈l,x.length<=1000000):Pure A1 86 [tStrs l] (.tup [dS (Qb9 l).1,dB (Qb9 l).2]):=by
 have c1:=QkL l hl 143 (fun s=> !Q9 s) Tryz.call143 fun p hp=>QtT p (hs p hp)
 have c2:=Qme l hl hs;rw[any_not] at c1;have hd:=Pm.hid (Qb9.eq_def l);generalize Qb9 l=res at*;generalize l.all Q9=o at*;generalize Qcq l=t at*;have g1:AI (l.length<=4->o=true->res=(t,true)):=Pm.hid fun h1 h2=>by rw[hd.out,h2,decide_eq_true h1];rfl
 have g2:AI (¬l.length<=4->res=([],false)):=Pm.hid fun h1=>by rw[hd.out,decide_eq_false h1];rfl
 have g3:AI (o=false->res=([],false)):=Pm.hid fun h2=>by rw[hd.out,h2,Bool.and_false];rfl
 clear hd;refine kB ?_
 repeat' first|refine kS ?_|refine qS (Qd9 cK c1 rfl rfl) ?_|refine kU ?_|refine kV ?_ ?_<;>intro q|fail
 all_goals
  refine Qb (hx:=?_);simp only[decide_eq_true_eq,decide_eq_false_iff_not,Bool.not_eq_true',Bool.not_eq_false'] at*
  first|rw[g2.out (by omega)];done|rw[g2.out (by omega)];rfl|rw[g3.out (by assumption)];done|rw[g3.out (by assumption)];rfl|rw[g1.out (by omega) (by assumption)];done|rw[g1.out (by omega) (by assumption)];rfl
theorem Qmf(s:List UInt8)(hs:s.length<=1000000000000):Pure A1 201 [dS s,dS [47]] (dB (decide (s.head? =some 47))):=by
 cases s with
 |nil=>
  refine kB ?_
  repeat refine kA ?_
  exact Qb (hx:=rfl)
 |cons c r=>
  have hd:AI (decide ((c::r).head? =some 47)=((c::r).take 1==[47])):=Pm.hid (by grind);refine kB ?_
  repeat' first|refine kS ?_|refine qS (Qfj rfl rfl rfl (by simp) (by grind)) ?_|refine qS (Qdp (m:=[47]) rfl rfl) ?_|refine kU ?_|refine kV ?_ ?_<;>intro q|fail
  all_goals first
   |(exfalso;simp at*;omega)
   |(refine Qb (hx:=?_)
     rw[hd.out]
     simp_all)
theorem Qn0(s:List UInt8)(hs:s.length<=1000000000000):Pure A1 140 [dS s,dS [47]] (.tup [dS (if s.head? =some 47 then s.drop 1 else s),dB (decide (s.head? =some 47))]):=by
 have c:=Qmf s hs;have h1:s.head? =some 47->1<=s.length:=fun h=>by grind
 by_cases h:s.head? =some 47
 ·have h1:=h1 h
  rw[decide_eq_true h] at*;rw[if_pos h];refine kB ?_
  repeat' first|refine kS ?_|refine qS (Qfi rfl rfl rfl (by simp) (by simp;omega)) ?_|refine kU ?_|fail
  exact Qb (hx:=rfl)
 ·rw[decide_eq_false h] at*
  rw[if_neg h];refine kB ?_
  repeat refine kA ?_
  exact Qb (hx:=rfl)
def QpS(s:List UInt8)(hs:s.length<=1000000000000):Pure A1 84 [dS s,dS [47]] (.tup [dS (if s.head? =some 47 then s.drop 1 else s),dB (decide (s.head? =some 47))]):=by
 have c:=Qn0 s hs;generalize (if s.head? =some 47 then s.drop 1 else s)=r at*;refine kB ?_
 repeat refine kA ?_
 exact Qb (hx:=rfl)
theorem Qpp(b:UInt8)(l:List (List UInt8))(m:Nat)(h: ∀x∈l,x.length<=m)(hn:l≠[]):(Qai b l).length+1<=l.length*(m+1):=by
 induction l with
 |nil=>grind
 |cons a l ih=>
  have h1:=h a AB;cases l with
  |nil=>simp[Qai];omega
  |cons c l=>
   grind [Qai,List.intersperse,Nat.succ_mul]
theorem Qlz{s:List UInt8}(h:20<s.length):Q7 s=none:=by
 unfold Q7;rw[if_neg (by grind),if_neg];rintro⟨h1,h2,h3⟩;cases s with
 |nil=>cases h1
 |cons c r=>
  obtain rfl:c=47:=by grind
  rw[QfX,List.tail_cons] at h2 h3
  have:=Qpp 47 (Pl.cutB 47 r) 4 (fun x hx=>by
   grind [Q9]) (Pl.QgH 47 r)
  grind [QiI]
theorem Qko(r:List UInt8):Q7 (47::r)=if r=[] then some [] else if(Qb9 (Pl.cutB 47 r)).2 then some (Pl.cutB 47 r) else none:=by grind [Q7,Qb9,QfX]
theorem QpJ(s:List UInt8)(hs:s.length<=1000000000000):Pure A1 36 [dS s] (.tup [tStrs ((Q7 s).getD []),dB (Q7 s).isSome]):=by
 have c1:=QpS s hs
 by_cases h47:s.head? =some 47
 rotate_left
 ·have hx:AI (Q7 s=none):=Pm.hid (by unfold Q7;grind)
  have hs47:(s==[47])=false:=by
   grind
  rw[decide_eq_false h47,if_neg h47] at c1;generalize Q7 s=res at*;refine kB ?_
  repeat' first|refine kS ?_|refine qS (Qdp (m:=[47]) rfl rfl) ?_|refine kU ?_|refine kV ?_ ?_<;>intro q|fail
  all_goals first
   |(exfalso;simp_all;done)
   |(refine QdT 2 true 1 (h:=?_)
     refine Qb (hx:=?_)
     first|(rw[hx.out];done)|(rw[hx.out];rfl))
 obtain⟨r,rfl⟩: ∃r,s=47::r:=by
  cases s with
  |nil=>cases h47
  |cons c r=>grind
 rw[decide_eq_true h47,if_pos h47] at c1;simp only[List.drop_succ_cons,List.drop_zero] at c1;have hd:=Pm.hid (Qko r)
 by_cases h20:(47::r).length<=20
 rotate_left
 ·have hx:=Pm.hid (Qlz (s:=47::r) (by omega))
  have hne:r≠[]:=by grind
  generalize Q7 (47::r)=res at*;clear hd;refine kB ?_
  repeat' first|refine kS ?_|refine qS (Qdp (m:=[47]) rfl rfl) ?_|refine kU ?_|refine kV ?_ ?_<;>intro q|fail
  all_goals first
   |(exfalso;simp_all;done)
   |(exfalso;simp at*;omega)
   |(refine QdT 2 true 1 (h:=?_)
     refine Qb (hx:=?_)
     first|(rw[hx.out];done)|(rw[hx.out];rfl))
 have hrl:r.length<=19:=by grind
 have c2:=bSplit r 47 (by omega);have hcl:=Qex 47 r;have c3:=bPathOf (Pl.cutB 47 r) (by omega) (fun x hx=>by grind)
 have ht:AI ((Qb9 (Pl.cutB 47 r)).2=true->(Qb9 (Pl.cutB 47 r)).1=47::r):=Pm.hid fun h=>by
  unfold Qb9 at h⊢;split at h
  ·rename_i h2;rw[if_pos h2];show 47::Qai 47 _=_;rw[QiI]
  ·cases h
 clear hcl;generalize Q7 (47::r)=res at*;generalize Pl.cutB 47 r=l at*;generalize Qb9 l=po at*;obtain⟨again,fine⟩:=po;simp only at ht hd c3;have hrs:((47::r)==[47])=decide (r=[]):=by grind
 cases fine
 all_goals
  refine kB ?_
  repeat' first|refine kS ?_|refine qS (Qdp (l:=47::r) (m:=[47]) rfl rfl) ?_|refine qS (Qd8 (m:=47::r) rfl rfl) ?_|refine kU ?_|refine kV ?_ ?_<;>intro q|fail
 all_goals first
  |(exfalso;simp at*;omega)
  |(refine QdT 2 true 1 (h:=?_)
    refine Qb (hx:=?_)
    first
     |(exfalso;have h9:=ht.out rfl;clear ht;simp_all;done)
     |(have h9:=hd.out;grind)
     |(have h9:=hd.out;clear hd ht;simp_all;rfl))
  |(refine Qb (hx:=?_)
    have h9:=hd.out
    grind)
attribute [local irreducible] AStep
structure QbL(s:Pm.Store):Prop where
 b1:s.2.1.1.length<=Pm.big
 b2:s.2.1.2.length<=Pm.big
 b3:s.2.2.2.1.length<=1000000000000
 b4:s.2.2.2.2.2.1.length<=1000000000000
theorem Qez{s:Pm.Store}(h:QZ s=true):QU s:=by
 unfold QZ at h;simp only[AE,beq_iff_eq] at h;obtain⟨⟨⟨⟨⟨h1,_⟩,_⟩,_⟩,h2⟩,_⟩:=h;refine⟨h1,fun r hr=>?_⟩;obtain⟨i,hi,rfl⟩:=A8 hr;unfold QbS at h2;have:=AG.1 h2 i (List.mem_range.2 (by omega))
 grind [Qbt]
def Qad(s:Pm.Store)(t:Pl.Tree)(path:List UInt8):Int×Bool:=
 match Q7 path with
 |none=>(0,false)
 |some q=>if QZ s&&Qab s t then(match Qa1 s (Qh s t) 0 q with|none=>(0,false)|some j=>(j,true)) else(0,false)
theorem QhR{s:Pm.Store}(h:Qab s t=true):Qx t:=by grind [Qab,Qav,Qdx]
theorem Qk6{kind:Nat->Nat}{en:Nat->Option Gr.En}(hen: ∀k es,en k=some es-> ∀e∈es,Q9 e.1=true){r L:List Gr.It}(h:Gr.FP kind en r L):(∀x∈r,∀n∈x.1,Q9 n=true)-> ∀x∈L,∀n∈x.1,Q9 n=true:=by
 induction h with
 |nil=>grind
 |file hk h ih=>
  intro hr x hx;rcases AX.1 hx with rfl|hx
  ·exact hr _ AB
  ·exact ih (fun y hy=>hr y (AH _ hy)) x hx
 |dir hk he h1 h2 ih1 ih2=>
  intro hr x hx;rcases AX.1 hx with rfl|hx
  ·exact hr _ AB
  ·rcases A7.1 hx with hx|hx
   ·refine ih1 (fun y hy n hn=>?_) x hx
    unfold Gr.kids at hy;obtain⟨e,hem,rfl⟩:=AN.1 hy;rcases A7.1 hn with hn|hn
    ·exact hr _ AB n hn
    grind
   ·exact ih2 (fun y hy=>hr y (AH _ hy)) x hx
theorem QiP{s:Pm.Store}(h:Qab s t=true):(∀x∈(Qa7 s t).1,(∀n∈x.1,Q9 n=true)/\0<=x.2/\x.2<16)/\(Qa7 s t).1.length<=144:=by
 have hF:=(QdV s t).1 h;have ht:=QhR h;unfold Qab at h;simp only[AE,beq_iff_eq] at h;obtain⟨L,g1,g2,g3⟩:=QfA s hF.root h.1.2;rw[g3];have hnl:(Qh s t).length<=16:=by unfold Qh;rw[AJ,texts_len s ht];have:=ht.manyHi;omega
 refine⟨fun x hx=>?_,by grind⟩;obtain⟨y,hy,rfl⟩:=AN.1 hx;refine⟨Qk6 (fun k es he e hee=>?_) g1 (by simp) y hy,?_⟩
 ·unfold QaO at he
  split at he
  ·obtain rfl:=AQ he
   obtain⟨e',he',rfl⟩:=AN.1 hee
   grind [Qhd]
  grind
 ·have:=g1.fd.kinds y.2 (AN.2 ⟨y,hy,rfl⟩)
  have hk:y.2<(Qh s t).length:=QdP (by omega)
  grind [QaW]
theorem Qse: ∀a b:List UInt8,decide (A2 a b<0)=A3 a b
 |[],[]=>by simp[A2,A3]
 |[],_::_=>by simp[A2,A3]
 |_::_,[]=>by simp[A2,A3]
 |a::x,b::y=>by
  have ih:=Qse x y
  grind [A2,A3]
theorem Qu5: ∀a b:List UInt8,(A2 a b==0)=(a==b)
 |[],[]=>by simp[A2]
 |[],_::_=>by simp[A2]
 |_::_,[]=>by simp[A2]
 |a::x,b::y=>by
  have ih:=Qu5 x y
  grind [A2]
def QtZ(a b:List UInt8):Pure A1 148 [dS a,dS b] (dI (A2 a b)):=
 Qd5 rfl fun w _=>(Tryz.strings_Compare ⟨a.toArray⟩ ⟨b.toArray⟩ w).mono fun e w' h=>⟨h.1,h.2▸Below.refl _ _⟩
def Qsu(e:Qm)(n:List UInt8):Pure A1 147 [.agg (rEnt e),dS n] (dI (A2 e.1 n)):=by
 have c:=QtZ e.1 n;generalize A2 e.1 n=r at*;refine kE ?_;refine Qa 0 (h:=?_)
 repeat refine kA ?_
 exact Qb (hx:=rfl)
def QbH(l:List Qm)(n:List UInt8):Nat:=(l.takeWhile fun e=>A3 e.1 n).length
def QaV(l:List Qm)(n:List UInt8):Bool:=match l[QbH l n]? with
 |some e=>e.1==n
 |none=>false
theorem QhD{α:Type}(p:α->Bool): ∀(l:List α) (i:Nat),i<=l.length->(∀k (h:k<l.length),k<i->p l[k]=true)->(∀h:i<l.length,p l[i]=false)->(l.takeWhile p).length=i
 |[],i,hi,_,_=>by simp_all
 |a::l,0,_,_,h2=>by
  simp_all
 |a::l,i+1,hi,h1,h2=>by
  have h:=h1 0 (by simp) (by omega);simp only[List.getElem_cons_zero] at h;rw[AU,if_pos h,AM,QhD p l i (by grind) (fun k hk hki=>h1 (k+1) (by omega) (by omega)) (fun hh=>h2 (by grind))]
theorem Qis(p:α->Bool): ∀(l:List α),(∀k (h:k<l.length),k<(l.takeWhile p).length->p l[k]=true)/\(∀e,l[(l.takeWhile p).length]? =some e->p e=false)
 :=by intro l;induction l<;>grind [AU]
theorem Qom{l:List Qm}(h:Qaa l=true)(n:List UInt8){i:Nat}(hi:i<l.length)(hj:j<l.length)(hij:i<=j)(hl:A3 l[j].1 n=true):A3 l[i].1 n=true:=by
 rcases Nat.eq_or_lt_of_le hij with e|e
 ·grind
 ·exact Qhm (QkD h hj e) hl
theorem Qnk{l:List Qm}(h:Qaa l=true)(n:List UInt8):l.find? (fun e=>e.1==n)=if QaV l n then l[QbH l n]? else none:=by
 unfold QaV;obtain⟨hlow,hat⟩:=Qis (fun e:Qm=>A3 e.1 n) l;rw[show(l.takeWhile fun e=>A3 e.1 n).length=QbH l n from rfl] at hlow hat;cases he:l[QbH l n]? with
 |none=>
  grind [A8,Qhn]
 |some e=>
  have hb:=hat e he;obtain⟨hlt,hge⟩:=A6.1 he
  grind [List.find?_eq_some_iff_getElem,Qhn,A8,QkD]
theorem QpT(l:List Qm)(n:List UInt8)(hE:Qaa l=true)(f:FuncId)(hf: ∀args w,(callFunc f args).run A1 w= .ok (.enter f args) w)(h: ∀e∈l,Pure A1 f [.agg (rEnt e),dS n] (dI (A2 e.1 n))):
 PureF A1 146 [.d (dEnts l),.d (dS n),.fn (.func f) []] (.tup [dI (QbH l n),dB (QaV l n)]):=by
 have hl:l.length<=12:=by have:=hE;unfold Qaa at this;rw[AE,decide_eq_true_eq] at this;exact this.2
 have hEd:=Pm.hid hE;clear hE;refine kF ?_
 repeat refine kA ?_
 refine Qq (fun m st=> ∃i j:Nat,i<=j/\j<=l.length/\m=j -i/\AI (∀k (h:k<l.length),k<i->A3 l[k].1 n=true)/\AI (∀k (h:k<l.length),j<=k->A3 l[k].1 n=false)/\
  st=⟨49,[(9,.d (dI i)),(10,.d (dI j)),(8,.d (dI l.length)),(0,.d (dEnts l)),(1,.d (dS n)),(2,.fn (.func f) [])],[]⟩) [9,10,8,0,1,2] 0 l.length ⟨0,l.length,by omega,by omega,by omega,Pm.hid fun _ _ h=>by omega,Pm.hid fun _ _ h=>by omega,by simp[keepE,go_sem]⟩ (round:=?_)
 rintro m st ⟨i,j,hij,hj,rfl,hA,hB,rfl⟩
 repeat refine kG ?_
 by_cases q3:i<j
 rotate_left
 ·have e:i=j:=by omega
  subst e;have hlow:AI (QbH l n=i):=Pm.hid (QhD _ l i hj (fun k hk hki=>hA.out k hk hki) (fun hh=>hB.out i hh (Nat.le_refl _)))
  by_cases q4:i<l.length
  ·obtain⟨x,hx⟩: ∃x,l[i]? =some x:=⟨_,A0 q4⟩
   have hr:=Qs (f:=rEnt) hx;have c:=h x (A4 hx);have hit:AI (QaV l n=(x.1==n)):=Pm.hid (by unfold QaV;rw[hlow.out,hx]);rw[<-Qu5] at hit;clear hx hA hB hEd;generalize A2 x.1 n=r at*;generalize QaV l n=hh at*;generalize QbH l n=lo at*
   repeat' first|refine kS ?_|refine qS (iy hr) ?_|refine qS (Qd6 hf c rfl rfl) ?_|refine kU ?_|refine kV ?_ ?_<;>intro q|fail
   all_goals first
    |(exfalso;simp only[decide_eq_true_eq,decide_eq_false_iff_not] at*;omega)
    |(refine QK (hx:=?_)
      rw[hlow.out,hit.out])
  ·have hit:AI (QaV l n=false):=Pm.hid (by unfold QaV;rw[hlow.out,List.getElem?_eq_none_iff.2 (by omega)])
   clear hA hB hEd;generalize QaV l n=hh at*;generalize QbH l n=lo at*
   repeat' first|refine kA ?_|refine kV ?_ ?_<;>intro q|fail
   all_goals first
    |(exfalso;simp only[decide_eq_true_eq,decide_eq_false_iff_not] at*;omega)
    |(refine QK (hx:=?_)
      rw[hlow.out,hit.out])
 have hm:(i+j)/2<l.length:=by omega
 obtain⟨x,hx⟩: ∃x,l[(i+j)/2]? =some x:=⟨_,A0 hm⟩;have hxe:l[(i+j)/2]=x:=(A6.1 hx).2;have hr:=Qs (f:=rEnt) hx;have c:=h x (A4 hx);have hlt:=Pm.hid (Qse x.1 n);have T:AI (A3 x.1 n=true-> ∀k (h:k<l.length),k<(i+j)/2+1->A3 l[k].1 n=true):=Pm.hid fun hb k hk hki=>Qom hEd.out n hk hm (by omega) (by rw[hxe];exact hb)
 have F:AI (A3 x.1 n=false-> ∀k (h:k<l.length),(i+j)/2<=k->A3 l[k].1 n=false):=Pm.hid fun hb k hk hki=>by
  cases hv:A3 l[k].1 n with
  |false=>rfl
  |true=>have:=Qom hEd.out n hm hk hki hv;rw[hxe,hb] at this;cases this
 generalize hmv:(i+j)/2=mm at*;have hmi:(((i:Int)+j)/2)=(mm:Int):=by omega
 clear hx hxe hEd;generalize A3 x.1 n=b at*;generalize A2 x.1 n=r at*
 repeat' first|refine kS ?_|refine qS (QdD (D1:= .int .i64) (k':= .u64) (m:=(i:Int)+j) (by kernel_rfl) (by kernel_rfl) rfl rfl (by rw[IntKind.wrap_u64];omega)) ?_|refine qS (QnU rfl rfl (by omega)) ?_|refine qS (QdD (D1:= .int .u64) (k':= .i64) (m:=(mm:Int)) (by kernel_rfl) (by kernel_rfl) rfl rfl (by rw[hmi,IntKind.wrap_i64];omega)) ?_|refine qS (iy hr) ?_|refine qS (Qd6 hf c rfl rfl) ?_|refine kU ?_|refine kV ?_ ?_<;>intro q|fail
 all_goals first
  |(exfalso;simp only[decide_eq_true_eq,decide_eq_false_iff_not] at*;omega)
  |(have hb:=hlt.out.symm.trans ‹decide (r<0)=true›
    exact Qg (j -(mm+1)) (by omega) ⟨mm+1,j,by omega,hj,by omega,Pm.hid (T.out hb),hB,by simp[keepE,go_sem]⟩)
  |(have hb:=hlt.out.symm.trans ‹decide (r<0)=false›
    exact Qg (mm -i) (by omega) ⟨i,mm,by omega,by omega,by omega,hA,Pm.hid (F.out hb),by simp[keepE,go_sem]⟩)
def Qo4(l:List Qm)(n:List UInt8)(hE:Qaa l=true):Pure A1 87 [dEnts l,dS n] (.tup [dI (QbH l n),dB (QaV l n)]):=by
 have c:=QpT l n hE 147 Tryz.call147 fun e _=>Qsu e n
 clear hE;generalize QbH l n=lo at*;generalize QaV l n=hh at*;refine kB ?_
 repeat' first|refine kS ?_|refine qS (Qd9 cK c rfl rfl) ?_|refine kU ?_|fail
 exact Qb (hx:=rfl)
def Qcl(a b:Int):Int:=if b>a then b else a
def Qcb:List Int->Int
 |[]=>0
 |x::l=>l.foldl Qcl x
def QqX(x:Int)(l:List Int)(y:Int):Qcb (x::l++[y])=Qcl (Qcb (x::l)) y:=by
 show(l++[y]).foldl Qcl x=_;rw[List.foldl_append];rfl
def QlP(t:Int): ∀(l:List Int) (a:Int),l.foldl Qcl a<=t↔a<=t/\ ∀y∈l,y<=t
 |[],a=>by simp
 |x::l,a=>by
  rw[List.foldl_cons,QlP t l];simp only[AX,forall_eq_or_imp];unfold Qcl;split<;>constructor<;>(rintro⟨h1,h2⟩;try rcases h2 with⟨h2,h3⟩)<;>first|(refine⟨by omega,by omega,?_⟩;assumption)|(refine⟨by omega,?_⟩;assumption)
def maxL_le{l:List Int}(h:l≠[])(t:Int):Qcb l<=t↔ ∀y∈l,y<=t:=by
 cases l with
 |nil=>exact absurd rfl h
 |cons x l=>show l.foldl Qcl x<=t↔_;rw[QlP];simp
theorem bMax(l:List Int)(hl:0<l.length)(hb:l.length<=1000000):Pure A1 75 [dInts l] (dI (Qcb l)):=by
 obtain⟨x0,l0,rfl⟩: ∃x0 l0,l=x0::l0:=by cases l with|nil=>simp at hl|cons x l=>exact⟨x,l,rfl⟩
 have h0:=Qs (f:=fun n=>[dI n]) (show(x0::l0)[0]? =some x0 from rfl)
 have hd:AI (∀(k:Nat) y,0<k->(x0::l0)[k]? =some y->Qcb ((x0::l0).take (k+1))=Qcl (Qcb ((x0::l0).take k)) y):=Pm.hid fun k y hk hy=>by
  rw[AC,hy];obtain⟨j,rfl⟩: ∃j,k=j+1:=⟨k -1,by omega⟩;exact QqX _ _ _
 have hfin:AI (Qcb ((x0::l0).take 1)=x0):=Pm.hid rfl;generalize x0::l0=l at*;clear l0;refine kB ?_
 repeat' first|refine kS ?_|refine qS (Qdd Ty.h rfl Ty.h rfl rfl rfl (by decide) h0) ?_|refine kU ?_|refine kV ?_ ?_<;>intro q|fail
 all_goals try (exfalso;simp only[decide_eq_true_eq,decide_eq_false_iff_not] at*;omega)
 refine Qq (fun m st=> ∃(k:Nat) (c:Int),0<k/\k<=l.length/\m=l.length -k+1/\AI (c=Qcb (l.take k))/\
  st=⟨25,[(0,.d (dInts l)),(3,.d (dI c)),(4,.d (dI k))],[]⟩) [0,3,4] 0 l.length ⟨1,x0,by decide,by omega,by omega,Pm.hid hfin.out.symm,by simp[keepE,go_sem]⟩ (round:=?_)
 rintro m st ⟨k,c,hk0,hk,rfl,hc,rfl⟩
 repeat refine kG ?_
 cases q4:decide ((k:Int)<(l.length:Int))
 ·repeat refine kA ?_
  refine Qb (hx:=?_);have:k=l.length:=by simp at q4;omega
  subst this;rw[hc.out,AD]
 have hk2:k<l.length:=by simp at q4;omega
 obtain⟨y,hy⟩: ∃y,l[k]? =some y:=⟨_,A0 hk2⟩;have hr:=Qs (f:=fun n=>[dI n]) hy;have hstep:=Pm.hid (hd.out k y hk0 hy);clear hd hy
 repeat' first|refine kS ?_|refine qS (iy hr) ?_|refine qS (QmK rfl rfl) ?_|refine kU ?_|fail
 exact Qg (l.length -(k+1)+1) (by omega) ⟨k+1,Qcl c y,by omega,by omega,rfl,Pm.hid (by rw[hstep.out,hc.out]),by simp[keepE,go_sem,Qcl]⟩
def QbQ(refs:List Int)(most:Int)(p:Pl.Ptr):Bool:=Pl.ptrOk p&& !Pl.ptrHole p&&decide (p.birth<=most)&& !(refs.getD p.pat.toNat 0==0)
def QaM(m:List Int)(p:Pl.Ptr):List Int:=m.set p.pat.toNat (m.getD p.pat.toNat 0+1)
def QaC(refs:List Int)(most:Int):List Pl.Ptr->List Int->Bool×List Int
 |[],m=>(true,m)
 |p::l,m=>if QbQ refs most p then QaC refs most l (QaM m p) else(false,m)
theorem Qma(m:List Int)(p:Pl.Ptr):(QaM m p).length=m.length:=by simp[QaM]
theorem Qpw(h0:0<=M)(h: ∀y∈m,0<=y/\y<=M)(i:Nat):0<=m.getD i 0/\m.getD i 0<=M:=by
 rw[A5];cases hi:m[i]? with
 |none=>grind
 |some y=>exact h y (A4 hi)
theorem Qjc(h0:0<=M)(h: ∀y∈m,0<=y/\y<=M)(p:Pl.Ptr): ∀y∈QaM m p,0<=y/\y<=M+1:=by
 intro y hy;rcases List.mem_or_eq_of_mem_set hy with hy|rfl
 ·grind
 ·have:=Qpw h0 h p.pat.toNat;omega
theorem Qgq(refs:List Int)(most:Int): ∀(l:List Pl.Ptr) (m:List Int) (M:Int),0<=M->(∀y∈m,0<=y/\y<=M)->(QaC refs most l m).2.length=m.length/\ ∀y∈(QaC refs most l m).2,0<=y/\y<=M+l.length
 |[],m,M,h0,h=>⟨rfl,fun y hy=>by have:=h y hy;omega⟩
 |p::l,m,M,h0,h=>by
  unfold QaC;split
  ·obtain⟨h1,h2⟩:=Qgq refs most l (QaM m p) (M+1) (by omega) (Qjc h0 h p)
   grind [Qma]
  grind
def QrQ{l:List α}{x:α}(h:l[j]? =some x):l.drop j=x::l.drop (j+1):=Qhf h
theorem bCount(s:Pm.Store)(hr64:s.2.1.1.length=64)(l:List Pl.Ptr)(hl:l.length<=1000000000000)(most:Int)(m0:List Int)(hm:m0.length=64)(hb: ∀y∈m0,0<=y/\y<=1000000000000)(g:Nat):
 Does A1 76 [.d (dPtrs l),.d (dI most),.d (.pd (rSt s)),.ptr 0 0 0] [.row 0 [.osl 1 g 0 64],.arr g 1 3 (m0.map fun n=>[dI n])] [.ptr 0 0 0,.osl 1 g 0 64]
  (.d (dB (QaC s.2.1.1 most l m0).1)) [.row 0 [.osl 1 g 0 64],.arr g 1 3 ((QaC s.2.1.1 most l m0).2.map fun n=>[dI n])]:=by
 have hfl:=(Qgq s.2.1.1 most l m0 1000000000000 (by decide) hb).1;have hc:AI (QaC s.2.1.1 most l m0=QaC s.2.1.1 most (l.drop 0) m0):=Pm.hid rfl;obtain⟨res,hres⟩: ∃res,res=QaC s.2.1.1 most l m0:=⟨_,rfl⟩;rw[<-hres] at hc hfl⊢;clear hres;refine kL ?hpin fun gvs=>?_
 case hpin=>
  intro i C hC
  match i,hC with
  |0,hC=>obtain rfl:=AQ hC;exact⟨_,rfl,.inr ⟨rfl,0,by simp⟩⟩
  |1,hC=>obtain rfl:=AQ hC;exact⟨_,rfl,rfl,rfl,.inr ⟨rfl,by simp[hfl],0,64,by simp⟩⟩
 simp only[parA,gslot,Aj,Nat.reduceAdd];clear hfl
 repeat refine kA ?_
 refine Qq (fun n st=> ∃(k:Nat) (m:List Int),k<=l.length/\n=l.length -k/\m.length=64/\(∀y∈m,0<=y/\y<=1000000000000+(k:Int))/\AI (res=QaC s.2.1.1 most (l.drop k) m)/\
  st=⟨46,[(9,.d (dPtrs l)),(10,.d (dI l.length)),(11,.d (dI k)),(1,.d (dI most)),(2,.d (.pd (rSt s))),(3,.ptr 0 0 0),(1000000,.gh [.ptr 0 0 0,.osl 1 g 0 64] gvs)],[.row 0 [.osl 1 g 0 64],.arr g 1 3 (m.map fun n=>[dI n])]⟩)
  [9,10,11,1,2,3,1000000] 2 l.length ⟨0,m0,by omega,rfl,hm,fun y hy=>by have:=hb y hy;omega,hc,by simp[keepE,go_sem]⟩ (round:=?_)
 rintro n st ⟨k,m,hk,rfl,hm2,hb2,hR,rfl⟩
 repeat refine kG ?_
 cases q4:decide ((k:Int)<(l.length:Int))
 ·repeat refine kA ?_
  have:k=l.length:=by simp at q4;omega
  subst this;rw[Ab] at hR;refine Qev [6,1000000] 2 (h:=?_);refine QdL (hx:=?_) (hH:=?_)<;>rw[hR.out]<;>rfl
 have hk2:k<l.length:=by simp at q4;omega
 obtain⟨x,hx⟩: ∃x,l[k]? =some x:=⟨_,A0 hk2⟩;have hr:=Qs (f:=rPtr) hx;rw[QrQ hx] at hR;have hs1:AI (QbQ s.2.1.1 most x=false->res=(false,m)):=Pm.hid fun h=>by rw[hR.out,QaC,if_neg (by rw[h];simp)]
 have hs2:AI (QbQ s.2.1.1 most x=true->res=QaC s.2.1.1 most (l.drop (k+1)) (QaM m x)):=Pm.hid fun h=>by rw[hR.out,QaC,if_pos h]
 have c1:=bPtrOk x;have c2:=Qey x;have hok:AI (QbQ s.2.1.1 most x=(Pl.ptrOk x&& !Pl.ptrHole x&&decide (x.birth<=most)&& !(s.2.1.1.getD x.pat.toNat 0==0))):=Pm.hid rfl
 by_cases hgood:Pl.ptrOk x=true/\Pl.ptrHole x=false/\x.birth<=most
 rotate_left
 ·have hbad:=Pm.hid (hs1.out (by
   rw[hok.out]
   by_cases a1:Pl.ptrOk x=true
   ·by_cases a2:Pl.ptrHole x=false
    ·have a3: ¬x.birth<=most:=fun a3=>hgood ⟨a1,a2,a3⟩
     simp[a3]
    ·have:Pl.ptrHole x=true:=by simpa using a2
     simp[this]
   ·have:Pl.ptrOk x=false:=by simpa using a1
    simp[this]))
  clear hs1 hs2 hok hR hx;generalize Pl.ptrOk x=okp at*;generalize Pl.ptrHole x=hop at*
  repeat' first|refine kS ?_|refine qS (iy hr) ?_|refine kU ?_|refine kV ?_ ?_<;>intro q|fail
  all_goals first
   |(exfalso;clear hbad;simp only[decide_eq_true_eq,decide_eq_false_iff_not] at*;simp_all;omega)
   |(exfalso;clear hbad;simp_all;done)
   |(refine Qev [6,1000000] 2 (h:=?_)
     refine QdL (hx:=?_) (hH:=?_)<;>rw[hbad.out]<;>done)
 obtain⟨a1,a2,a3⟩:=hgood;have hat:=QdN a1 a2;obtain⟨j,hj⟩:=AL hat.1;have hj64:j<64:=by omega
 obtain⟨rf,hrf⟩: ∃rf,s.2.1.1[j]? =some rf:=⟨_,A0 (by omega)⟩;obtain⟨mv,hmv⟩: ∃mv,m[j]? =some mv:=⟨_,A0 (by omega)⟩;have hrr:=Qs (f:=fun n=>[dI n]) hrf;have hmr:=Qs (f:=fun n=>[dI n]) hmv;have hmb:=hb2 mv (A4 hmv)
 have hok2:AI (QbQ s.2.1.1 most x= !(rf==0)):=Pm.hid (by
  rw[hok.out,a1,a2,decide_eq_true a3,hj,AK,A5,hrf];rfl)
 have hbu:AI (QaM m x=m.set j (mv+1)):=Pm.hid (by unfold QaM;rw[hj,AK,A5,hmv];rfl);have hbb:=Qjc (M:=1000000000000+(k:Int)) (by omega) hb2 x;rw[a1] at c1;rw[a2] at c2;rw[<-hj] at hrr hmr;have hmr2:(m.map fun n=>[dI n])[0+x.pat.toNat]? =some [dI mv]:=by rw[Aj];exact hmr
 clear hR hok hx hrf hmv a1 a2;generalize QbQ s.2.1.1 most x=ck at*;generalize QaM m x=bm at*
 repeat' first|refine kS ?_|refine qS (iy hr) ?_|refine qS (iy hrr) ?_|refine qS (Qdg Ty.h rfl rfl hmr2 rfl) ?_|refine(Qmh Ty.h rfl rfl hmr2 rfl (kk:=?_))|refine kU ?_|refine kV ?_ ?_<;>intro q|fail
 all_goals first
  |(exfalso;simp only[decide_eq_true_eq,decide_eq_false_iff_not] at*;omega)
  |(refine Qev [6,1000000] 2 (h:=?_)
    refine QdL (hx:=?_) (hH:=?_)<;>rw[hs1.out (by rw[hok2.out];simp_all)]<;>done)
  |(refine Qg (l.length -(k+1)) (by omega) ⟨k+1,bm,by omega,rfl,by rw[hbu.out];simpa using hm2,fun y hy=>by have:=hbb y hy;omega,Pm.hid (hs2.out (by rw[hok2.out];simp_all)),?_⟩
    rw[hbu.out,List.map_set]
    simp[keepE,go_sem,hj];done)
