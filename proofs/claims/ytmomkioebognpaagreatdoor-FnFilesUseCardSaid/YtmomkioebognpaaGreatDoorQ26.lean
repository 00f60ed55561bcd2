/- Of fuse_card; no condition. -/
import Derived.Test.YtmomkioebognpaaGreatDoorQ25
set_option linter.all false
set_option maxRecDepth 100000
set_option maxHeartbeats 16000000
open Bool renaming and_eq_true->A6,false_and->AH,and_false->AS,true_and->AW
open Go.Proofs.Tryz renaming underlying211->A3,underlying3->A4,prog->AF,underlying90->AO
open Go.RowKit renaming Hid->AC
open Int renaming toNat_natCast->A9,eq_ofNat_of_zero_le->AA,le_refl->AX
open List renaming getD_eq_getElem?_getD->A0,getElem?_eq_getElem->A1,replicate->A2,range->A5,take_of_length_le->A7,mem_of_getElem?->A8,length_cons->AB,mem_singleton->AD,all_eq_true->AE,mem_range->AI,count_le_length->AJ,mem_replicate->AK,append_assoc->AL,getElem?_map->AM,drop_length->AP,length_map->AQ,mem_cons->AT,map_cons->AU,count->AY
open Nat renaming zero_add->AN
open Option renaming getD_some->AG
open Option.some renaming inj->AR
namespace Go.Proofs.YtmomkioebognpaaGreatDoor
noncomputable section
section
open Go.RowKit
namespace Aw
variable{M:Int}{m:List Int}
attribute [local irreducible] ASeq ADraw AWP Loc AStep
def tree_zn(s:Pm.Store):Pl.Qai s Pl.zn.tree=true:=by
 unfold Pl.Qai Pl.Qap;show(_&&_&&Pl.ptrOk Pl.hole&&(Pl.lvl s 0 [Pl.hole]).2&&_)=true;simp[Pl.lvl,QcF,Pl.QaA,Pl.ptrHole,Pl.inR,Pl.zn]
theorem QoB{s:Pm.Store}{t:Pl.Tree}(h:Pl.Qav s t=true): ∀nd∈Pl.Qab s t,Pl.Qai s nd.tree=true:=by
 intro nd hn;have hF:=((Qfm s t).1 h).tab;unfold Pl.QaI at hF;rw[A6,AE] at hF;unfold Pl.Qab at hn;obtain⟨x,hx,rfl⟩:=List.mem_map.1 hn;have:=hF.2 x hx;rw[Bool.or_eq_true,A6] at this;rcases this with h1|h1
 ·have:x=[]:=by simpa using h1
  subst this;rw[QhN];exact tree_zn s
 ·exact h1.2
def al8All(s:Pm.Store)(hg:Pl.Good s)(htx:0<=s.2.2.1)(t:Pl.Tree)(hok:Pl.Qai s t=true):Pure AF 19 [dSt s,dTree t] (tPtrs (Pl.allT s t)):=by
 have ht:=Qcf hok;obtain⟨e1,e2,e3,e4,_⟩:=QiN (Qg6 hok htx);have hall:AC ([]++Pl.allL s [t.root]=Pl.allT s t):=Pm.hid (by unfold Pl.allT Pl.allL;rw[e1];simp);have hlen:=QcV (s:=s) ht.hi;have hL:AC (Pl.SubL s [t.root]):=Pm.hid fun p hp=>by rw[AD.1 hp];exact⟨e2,e3⟩
 have hm0:Pl.todo [t.root]<=21:=by
  have h1:=Qhp (n:=t.root.level.toNat) (m:=2) (by have:=ht.hi;omega);have h2:Pl.wgt 2=21:=rfl;have h3:Pl.todo [t.root]=Pl.wgt t.root.level.toNat+0:=rfl;omega
 generalize Pl.allT s t=all at*;clear e1 e2 e3 e4 hok ht;refine kE ?_;refine QbP 0 (h:=?_);refine QbP 1 (h:=?_)
 repeat refine kA ?_
 refine QbP 3 (h:=?_)
 refine QbS (fun m st=> ∃(g:Nat) (out l:List Pl.Ptr),m=Pl.todo l/\AC (out++Pl.allL s l=all)/\AC (Pl.SubL s l)/\Pl.todo l<=21/\
  st=⟨47,[(5,.osl 2 g 0 out.length),(6,.d (tPtrs l)),(2,.d (.pd (rSt s)))],[.row 1 [],.row 1 [],.arr g 5 31 (out.map rPtr)]⟩) [5,6,2] 3 (Pl.todo [t.root]) ⟨0,[],[t.root],rfl,hall,hL,hm0,by simp[keepE,go_sem]⟩ (round:=?_)
 rintro m st ⟨g,out,l,rfl,hO,hS,hm,rfl⟩;have hol:out.length<=21:=by have:=congrArg List.length hO.out;rw[List.length_append] at this;omega
 have hll:=Qhr l
 repeat refine kG ?_
 cases l with
 |nil=>
  repeat refine kA ?_
  all_goals first|exfalso;simp at*;done|skip
  (refine QbP 2 (h:=?_);refine QbQ (hx:=?_))
  have h:=hO.out;rw[show Pl.allL s []=[] from rfl,List.append_nil] at h;rw[<-h];simp[A7]
 |cons p l=>
  have hp:=hS.out p (by simp);have hSl:AC (Pl.SubL s l):=Pm.hid fun q hq=>hS.out q (by simp[hq])
  have hr:((p::l).map rPtr)[(0:Int).toNat]? =some (rPtr p):=rfl;have ch:=Qcr p;have hlt:Pl.todo l<Pl.todo (p::l):=by rw[Qgc];have:=QlQ p.level.toNat;omega
  have hll2:=Qhr l;cases hh:Pl.ptrHole p;rotate_left
  ·rw[hh] at ch
   have hO2:AC (out++Pl.allL s l=all):=Pm.hid (by rw[<-hO.out,Qoe hh])
   repeat' first|refine kS ?_|refine qS (iy hr) ?_|refine qS (Qed rfl rfl rfl (by omega) (by first|(simp;done)|(simp;omega))) ?_|refine QcG Ty.h rfl Ty.h (hb:=?_) (hcell:=?_) (kk:=?_)|refine kU ?_|refine kV ?_ ?_<;>intro q|fail
   all_goals first|exact Qco l|simp;omega|exfalso;simp at*;done|skip
   refine Qfx 4 (h:=?_);refine QbR (Pl.todo l) hlt ⟨g,out,l,rfl,hO2,hSl,by omega,?_⟩;simp[keepE,go_sem,A7]
  ·rw[hh] at ch
   have hob:=Qky s hg p p.level
   by_cases h0:p.level=0
   ·have hO2:AC ((out++[p])++Pl.allL s l=all):=Pm.hid (by rw[<-hO.out,Qod hh h0,AL];rfl)
    have hd0:decide (p.level>0)=false:=by rw[h0];rfl
    repeat' first|refine kS ?_|refine qS (iy hr) ?_|refine qS (Qed rfl rfl rfl (by omega) (by first|(simp;done)|(simp;omega))) ?_|refine QcG Ty.h rfl Ty.h (hb:=?_) (hcell:=?_) (kk:=?_)|refine Qci Ty.h rfl Ty.h (hb:=?_) (kk:=?_)|refine kU ?_|refine kV ?_ ?_<;>intro q|fail
    all_goals first|exact Qco l|simp;omega|exfalso;simp at*;done|exfalso;simp at*;omega|skip
    refine Qfx 4 (h:=?_);refine QbR (Pl.todo l) hlt ⟨g+1,out++[p],l,rfl,hO2,hSl,by omega,?_⟩;simp[keepE,go_sem,A7]
   ·obtain⟨k1,k2,k3⟩:=Qoc (l:=l) hh (by omega) hp.1
    have hO2:AC ((out++[p])++Pl.allL s ((Pl.Qad s p p.level).1++l)=all):=Pm.hid (by rw[<-hO.out,k1,AL];rfl);have hSn:AC (Pl.SubL s ((Pl.Qad s p p.level).1++l)):=Pm.hid fun q hq=>(List.mem_append.1 hq).elim (k2 q) (hSl.out q)
    have hbl:=Qdu s p p.level;clear k1 k2;generalize Pl.Qad s p p.level=bb at*;obtain⟨bl,bok⟩:=bb;simp only at hO2 hSn hbl k3
    repeat' first|refine kS ?_|refine qS (iy hr) ?_|refine qS (Qed rfl rfl rfl (by omega) (by first|(simp;done)|(simp;omega))) ?_|refine QcG Ty.h rfl Ty.h (hb:=?_) (hcell:=?_) (kk:=?_)|refine Qci Ty.h rfl Ty.h (hb:=?_) (kk:=?_)|refine kU ?_|refine kV ?_ ?_<;>intro q|fail
    all_goals first|exact Qco l|exact Qco bl|simp;omega|exfalso;simp at*;done|exfalso;simp at*;omega|skip
    refine Qdl 4 (h:=?_)
    repeat' first|refine kS ?_|refine QcG Ty.h rfl Ty.h (hb:=?_) (hcell:=?_) (kk:=?_)|refine kU ?_|fail
    ·intro r hr
     exact Qco l r (by simpa[A7] using hr)
    ·simp;omega
    ·refine Qfx 6 (h:=?_)
     refine QbR (Pl.todo (bl++l)) k3 ⟨g+1,out++[p],bl++l,rfl,hO2,hSn,by omega,?_⟩;simp[keepE,go_sem,A7]
theorem QrV(s:Pm.Store)(hl:Pl.Lens s)(t:Pl.Tree)(path:List UInt8)(hp:path.length<=1000000000000):Pure AF 6 [dSt s,dTree t,dS path] (.tup [dI (Pl.Qay s t path (Pl.Qat s)).1,dB (Pl.Qay s t path (Pl.Qat s)).2]):=by
 have hd:=Pm.hid (Pl.Qay.eq_def s t path (Pl.Qat s));have hf:=Pm.hid (Pl.QaU.eq_def s t path);have c1:=Qpw s hl t path hp
 have hno:AC ((Pl.QaU s t path).2=false->Pl.Qay s t path (Pl.Qat s)=(0,false)):=Pm.hid fun h=>by
  rw[hd.out];rw[hf.out] at h;cases h1:Pl.Qae path with
  |none=>rfl
  |some q=>
   rw[h1] at h;dsimp only at h⊢;cases h2:Pl.Qan s&&Pl.Qav s t
   ·rfl
   ·rw[h2] at h
    rw[if_pos rfl] at h⊢;cases h3:Pl.QaM s (Pl.Qab s t) 0 q with
    |none=>rfl
    |some j=>rw[h3] at h;cases h
 have hyes:AC ((Pl.QaU s t path).2=true-> ∃q,Pl.Qae path=some q/\Pl.Qan s=true/\Pl.Qav s t=true/\Pl.Qay s t path (Pl.Qat s)=(Pl.Qbj s t q (Pl.Qat s),true)):=Pm.hid fun h=>by
  rw[hd.out];rw[hf.out] at h;cases h1:Pl.Qae path with
  |none=>rw[h1] at h;cases h
  |some q=>
   rw[h1] at h;dsimp only at h⊢;cases h2:Pl.Qan s&&Pl.Qav s t
   ·rw[h2] at h;cases h
   ·rw[h2] at h
    rw[if_pos rfl] at h⊢;cases h3:Pl.QaM s (Pl.Qab s t) 0 q with
    |none=>rw[h3] at h;cases h
    |some j=>
     have:Pl.Qan s=true/\Pl.Qav s t=true:=by simpa using h2
     exact⟨q,rfl,this.1,this.2,rfl⟩
 clear hd hf;generalize Pl.QaU s t path=r at*;obtain⟨j,ok⟩:=r;cases ok
 ·have hx:=Pm.hid (hno.out rfl)
  refine kE ?_;refine QbP 0 (h:=?_);refine QbP 1 (h:=?_)
  repeat refine kA ?_
  exact QbQ (hx:=by rw[hx.out])
 obtain⟨q,hq,h1,h2,h3⟩:=hyes.out rfl;have h3:=Pm.hid h3;have hg:=QcL h1;have ht:=Qfn h2;have c2:=QrS s hg t path h2 q hq;have c3:=QlH s hg t ht;have hnl:(Pl.Qab s t).length<=16:=by unfold Pl.Qab;rw[AQ,texts_len s ht];have:=ht.manyHi;omega
 have hgt: ∀nd∈Pl.Qab s t,Pl.Qai s nd.tree=true:=QoB h2;have htx:0<=s.2.2.1:=QdK h1
 have hB:AC (∀k,0<=Pl.Qat s ((Pl.Qab s t).getD k Pl.zn)/\Pl.Qat s ((Pl.Qab s t).getD k Pl.zn)<=2048):=Pm.hid fun k=>by
  have h:((Pl.Qab s t).getD k Pl.zn).tree.depth<=2:=by
   rcases Qev s t k with h|_
   ·rw[h];decide
   ·rw[A0]
    cases hk:(Pl.Qab s t)[k]? with
    |none=>decide
    |some nd=>exact(Qcf (hgt nd (A8 hk))).hi
  have:=QcV (s:=s) h;unfold Pl.Qat;omega
 have hsb:AC (Pl.Qbj s t q (Pl.Qat s)=Pl.QaJ (fun k=>if Pl.isIn (Pl.QaS s t).1 q k then Pl.Qat s ((Pl.Qab s t).getD k Pl.zn) else 0) (Pl.Qab s t).length):=Pm.hid rfl;clear hno hyes hq h1 h2 ht hp;generalize Pl.Qab s t=ns at*;generalize (Pl.QaS s t).1=out at*;refine kE ?_;refine QbP 0 (h:=?_);refine QbP 1 (h:=?_)
 repeat refine kA ?_
 refine QbS (fun m st=> ∃k:Nat,k<=ns.length/\m=16 -k/\st=⟨51,[(10,.d (dI (Pl.QaJ (fun k=>if Pl.isIn out q k then Pl.Qat s (ns.getD k Pl.zn) else 0) k))),(13,.d (dI k)),(11,.d (.sl true 1 ((Pl.QaR out q).map fun b=>[dB b]))),(12,.d (.sl true 10 (ns.map rNode))),(3,.d (.pd (rSt s)))],[.row 1 [],.row 1 []]⟩) [10,13,11,12,3] 2 16 ⟨0,by omega,rfl,rfl⟩ (round:=?_);rintro m st ⟨k,hk,rfl,rfl⟩
 repeat refine kG ?_
 cases q4:decide ((k:Int)<(ns.length:Int))
 ·repeat refine kA ?_
  have:k=ns.length:=by simp at q4;omega
  subst this;exact QbQ (hx:=by rw[h3.out,hsb.out])
 have hk2:k<ns.length:=by simp at q4;omega
 obtain⟨nd,hnd⟩: ∃nd,ns[k]? =some nd:=⟨_,A1 hk2⟩;have hr:=QbV (f:=rNode) hnd
 have hr2:((Pl.QaR out q).map fun b=>[dB b])[(k:Int).toNat]? =some [dB (Pl.isIn out q k)]:=by
  rw[A9,AM,Qlq _ _ (by omega)];rfl
 have hgd:ns.getD k Pl.zn=nd:=by rw[A0,hnd];rfl
 have hbn:=hB.out k;rw[hgd] at hbn
 have hsum:=QhC (f:=fun k=>if Pl.isIn out q k then Pl.Qat s (ns.getD k Pl.zn) else 0) 2048 (n:=k) (fun i _=>by
  have:=hB.out i
  split<;>omega)
 have hnext:AC (Pl.QaJ (fun k=>if Pl.isIn out q k then Pl.Qat s (ns.getD k Pl.zn) else 0) (k+1)=Pl.QaJ (fun k=>if Pl.isIn out q k then Pl.Qat s (ns.getD k Pl.zn) else 0) k+if Pl.isIn out q k then Pl.Qat s nd else 0):=Pm.hid (by
  show _+(if Pl.isIn out q k then Pl.Qat s (ns.getD k Pl.zn) else 0)=_
  rw[hgd])
 have c5:=al8All s hg htx nd.tree (hgt nd (A8 hnd));have hbo:AC (Pl.Qat s nd=((Pl.allT s nd.tree).length:Nat)):=Pm.hid rfl;rw[hbo.out] at hbn hnext;generalize Pl.allT s nd.tree=al at*;clear hgt hbo;clear hnd hgd hB h3 hsb c1 c2 c3;generalize Pl.QaJ (fun k=>if Pl.isIn out q k then Pl.Qat s (ns.getD k Pl.zn) else 0) k=sm at*;generalize Pl.isIn out q k=inn at*;obtain⟨kind,links,size,⟨⟨p1,p2,p3,p4,p5⟩,depth,many⟩⟩:=nd;simp only at c5
 repeat' first|refine kS ?_|refine qD (iy hr) ?_|refine qS (iy hr2) ?_|refine kU ?_|refine kV ?_ ?_<;>intro q|fail
 all_goals
  refine QbR (16 -(k+1)) (by omega) ⟨k+1,by omega,rfl,?_⟩;rw[hnext.out];simp[keepE,go_sem, *]
def Pl.maxI(a b:Int):Int:=if b>a then b else a
def Pl.maxL:List Int->Int
 |[]=>0
 |x::l=>l.foldl Pl.maxI x
def Qqt(x:Int)(l:List Int)(y:Int):Pl.maxL (x::l++[y])=Pl.maxI (Pl.maxL (x::l)) y:=by
 show(l++[y]).foldl Pl.maxI x=_;rw[List.foldl_append];rfl
def Qlo(t:Int): ∀(l:List Int) (a:Int),l.foldl Pl.maxI a<=t↔a<=t/\ ∀y∈l,y<=t
 |[],a=>by simp
 |x::l,a=>by
  rw[List.foldl_cons,Qlo t l];simp only[AT,forall_eq_or_imp];unfold Pl.maxI;split<;>constructor<;>(rintro⟨h1,h2⟩;try rcases h2 with⟨h2,h3⟩)<;>first|(refine⟨by omega,by omega,?_⟩;assumption)|(refine⟨by omega,?_⟩;assumption)
def maxL_le{l:List Int}(h:l≠[])(t:Int):Pl.maxL l<=t↔ ∀y∈l,y<=t:=by
 cases l with
 |nil=>exact absurd rfl h
 |cons x l=>show l.foldl Pl.maxI x<=t↔_;rw[Qlo];simp
theorem bMax(l:List Int)(hl:0<l.length)(hb:l.length<=1000000):Pure AF 111 [dInts l] (dI (Pl.maxL l)):=by
 obtain⟨x0,l0,rfl⟩: ∃x0 l0,l=x0::l0:=by cases l with|nil=>simp at hl|cons x l=>exact⟨x,l,rfl⟩
 have h0:=QbV (f:=fun n=>[dI n]) (show(x0::l0)[0]? =some x0 from rfl)
 have hd:AC (∀(k:Nat) y,0<k->(x0::l0)[k]? =some y->Pl.maxL ((x0::l0).take (k+1))=Pl.maxI (Pl.maxL ((x0::l0).take k)) y):=Pm.hid fun k y hk hy=>by
  rw[List.take_add_one,hy];obtain⟨j,rfl⟩: ∃j,k=j+1:=⟨k -1,by omega⟩;exact Qqt _ _ _
 have hfin:AC (Pl.maxL ((x0::l0).take 1)=x0):=Pm.hid rfl;generalize x0::l0=l at*;clear l0;refine kB ?_
 repeat' first|refine kS ?_|refine qS (QbW Ty.h rfl Ty.h rfl rfl rfl (by decide) h0) ?_|refine kU ?_|refine kV ?_ ?_<;>intro q|fail
 all_goals try (exfalso;simp only[decide_eq_true_eq,decide_eq_false_iff_not] at*;omega)
 refine QbS (fun m st=> ∃(k:Nat) (c:Int),0<k/\k<=l.length/\m=l.length -k+1/\AC (c=Pl.maxL (l.take k))/\
  st=⟨25,[(0,.d (dInts l)),(3,.d (dI c)),(4,.d (dI k))],[]⟩) [0,3,4] 0 l.length ⟨1,x0,by decide,by omega,by omega,Pm.hid hfin.out.symm,by simp[keepE,go_sem]⟩ (round:=?_)
 rintro m st ⟨k,c,hk0,hk,rfl,hc,rfl⟩
 repeat refine kG ?_
 cases q4:decide ((k:Int)<(l.length:Int))
 ·repeat refine kA ?_
  refine QbQ (hx:=?_);have:k=l.length:=by simp at q4;omega
  subst this;rw[hc.out,List.take_length]
 have hk2:k<l.length:=by simp at q4;omega
 obtain⟨y,hy⟩: ∃y,l[k]? =some y:=⟨_,A1 hk2⟩;have hr:=QbV (f:=fun n=>[dI n]) hy;have hstep:=Pm.hid (hd.out k y hk0 hy);clear hd hy
 repeat' first|refine kS ?_|refine qS (iy hr) ?_|refine qS (Qmm rfl rfl) ?_|refine kU ?_|fail
 exact QbR (l.length -(k+1)+1) (by omega) ⟨k+1,Pl.maxI c y,by omega,by omega,rfl,Pm.hid (by rw[hstep.out,hc.out]),by simp[keepE,go_sem,Pl.maxI]⟩
def Pl.QbC(refs:List Int)(most:Int)(p:Pl.Ptr):Bool:=Pl.ptrOk p&& !Pl.ptrHole p&&decide (p.birth<=most)&& !(refs.getD p.pat.toNat 0==0)
def Pl.Qbf(m:List Int)(p:Pl.Ptr):List Int:=m.set p.pat.toNat (m.getD p.pat.toNat 0+1)
def Pl.cntP(refs:List Int)(most:Int):List Pl.Ptr->List Int->Bool×List Int
 |[],m=>(true,m)
 |p::l,m=>if Pl.QbC refs most p then Pl.cntP refs most l (Pl.Qbf m p) else(false,m)
def Ql0(m:List Int)(p:Pl.Ptr):(Pl.Qbf m p).length=m.length:=by simp[Pl.Qbf]
def QoQ(h0:0<=M)(h: ∀y∈m,0<=y/\y<=M)(i:Nat):0<=m.getD i 0/\m.getD i 0<=M:=by
 rw[A0];cases hi:m[i]? with
 |none=>exact⟨AX _,h0⟩
 |some y=>exact h y (A8 hi)
def Qi0(h0:0<=M)(h: ∀y∈m,0<=y/\y<=M)(p:Pl.Ptr): ∀y∈Pl.Qbf m p,0<=y/\y<=M+1:=by
 intro y hy;rcases List.mem_or_eq_of_mem_set hy with hy|rfl
 ·have:=h y hy;omega
 ·have:=QoQ h0 h p.pat.toNat;omega
def QfE(refs:List Int)(most:Int): ∀(l:List Pl.Ptr) (m:List Int) (M:Int),0<=M->(∀y∈m,0<=y/\y<=M)->(Pl.cntP refs most l m).2.length=m.length/\ ∀y∈(Pl.cntP refs most l m).2,0<=y/\y<=M+l.length
 |[],m,M,h0,h=>⟨rfl,fun y hy=>by have:=h y hy;simp;omega⟩
 |p::l,m,M,h0,h=>by
  unfold Pl.cntP;split
  ·obtain⟨h1,h2⟩:=QfE refs most l (Pl.Qbf m p) (M+1) (by omega) (Qi0 h0 h p)
   exact⟨h1.trans (Ql0 m p),fun y hy=>by have:=h2 y hy;rw[AB];omega⟩
  ·exact⟨rfl,fun y hy=>by have:=h y hy;rw[AB];omega⟩
def Qrm{α:Type}{l:List α}{j:Nat}{x:α}(h:l[j]? =some x):l.drop j=x::l.drop (j+1):=Qgu h
theorem bCount(s:Pm.Store)(hr64:s.2.1.1.length=64)(l:List Pl.Ptr)(hl:l.length<=1000000000000)(most:Int)(m0:List Int)(hm:m0.length=64)(hb: ∀y∈m0,0<=y/\y<=1000000000000)(g:Nat):
 Does AF 112 [.d (dPtrs l),.d (dI most),.d (.pd (rSt s)),.ptr 0 0 0] [.row 0 [.osl 1 g 0 64],.arr g 1 3 (m0.map fun n=>[dI n])] [.ptr 0 0 0,.osl 1 g 0 64]
  (.d (dB (Pl.cntP s.2.1.1 most l m0).1)) [.row 0 [.osl 1 g 0 64],.arr g 1 3 ((Pl.cntP s.2.1.1 most l m0).2.map fun n=>[dI n])]:=by
 have hfl:=(QfE s.2.1.1 most l m0 1000000000000 (by decide) hb).1;have hc:AC (Pl.cntP s.2.1.1 most l m0=Pl.cntP s.2.1.1 most (l.drop 0) m0):=Pm.hid rfl;obtain⟨res,hres⟩: ∃res,res=Pl.cntP s.2.1.1 most l m0:=⟨_,rfl⟩;rw[<-hres] at hc hfl⊢;clear hres;refine kL ?hpin fun gvs=>?_
 case hpin=>
  intro i C hC
  match i,hC with
  |0,hC=>obtain rfl:=AR hC;exact⟨_,rfl,.inr ⟨rfl,0,by simp⟩⟩
  |1,hC=>obtain rfl:=AR hC;exact⟨_,rfl,rfl,rfl,.inr ⟨rfl,by simp[hfl],0,64,by simp⟩⟩
 simp only[parA,gslot,AN,Nat.reduceAdd];clear hfl
 repeat refine kA ?_
 refine QbS (fun n st=> ∃(k:Nat) (m:List Int),k<=l.length/\n=l.length -k/\m.length=64/\(∀y∈m,0<=y/\y<=1000000000000+(k:Int))/\AC (res=Pl.cntP s.2.1.1 most (l.drop k) m)/\
  st=⟨46,[(9,.d (dPtrs l)),(10,.d (dI l.length)),(11,.d (dI k)),(1,.d (dI most)),(2,.d (.pd (rSt s))),(3,.ptr 0 0 0),(1000000,.gh [.ptr 0 0 0,.osl 1 g 0 64] gvs)],[.row 0 [.osl 1 g 0 64],.arr g 1 3 (m.map fun n=>[dI n])]⟩)
  [9,10,11,1,2,3,1000000] 2 l.length ⟨0,m0,by omega,rfl,hm,fun y hy=>by have:=hb y hy;omega,hc,by simp[keepE,go_sem]⟩ (round:=?_)
 rintro n st ⟨k,m,hk,rfl,hm2,hb2,hR,rfl⟩
 repeat refine kG ?_
 cases q4:decide ((k:Int)<(l.length:Int))
 ·repeat refine kA ?_
  have:k=l.length:=by simp at q4;omega
  subst this;rw[AP] at hR;refine Qd5 [6,1000000] 2 (h:=?_);refine Qdk (hx:=?_) (hH:=?_)<;>rw[hR.out]<;>rfl
 have hk2:k<l.length:=by simp at q4;omega
 obtain⟨x,hx⟩: ∃x,l[k]? =some x:=⟨_,A1 hk2⟩;have hr:=QbV (f:=rPtr) hx;rw[Qrm hx] at hR;have hs1:AC (Pl.QbC s.2.1.1 most x=false->res=(false,m)):=Pm.hid fun h=>by rw[hR.out,Pl.cntP,if_neg (by rw[h];simp)]
 have hs2:AC (Pl.QbC s.2.1.1 most x=true->res=Pl.cntP s.2.1.1 most (l.drop (k+1)) (Pl.Qbf m x)):=Pm.hid fun h=>by rw[hR.out,Pl.cntP,if_pos h]
 have c1:=bPtrOk x;have c2:=Qde x;have hok:AC (Pl.QbC s.2.1.1 most x=(Pl.ptrOk x&& !Pl.ptrHole x&&decide (x.birth<=most)&& !(s.2.1.1.getD x.pat.toNat 0==0))):=Pm.hid rfl
 by_cases hgood:Pl.ptrOk x=true/\Pl.ptrHole x=false/\x.birth<=most
 rotate_left
 ·have hbad:=Pm.hid (hs1.out (by
   rw[hok.out]
   by_cases a1:Pl.ptrOk x=true
   ·by_cases a2:Pl.ptrHole x=false
    ·have a3: ¬x.birth<=most:=fun a3=>hgood ⟨a1,a2,a3⟩
     simp[a3]
    ·have:Pl.ptrHole x=true:=by simpa using a2
     simp[this]
   ·have:Pl.ptrOk x=false:=by simpa using a1
    simp[this]))
  clear hs1 hs2 hok hR hx;generalize Pl.ptrOk x=okp at*;generalize Pl.ptrHole x=hop at*
  repeat' first|refine kS ?_|refine qS (iy hr) ?_|refine kU ?_|refine kV ?_ ?_<;>intro q|fail
  all_goals first
   |(exfalso;clear hbad;simp only[decide_eq_true_eq,decide_eq_false_iff_not] at*;simp_all;omega)
   |(exfalso;clear hbad;simp_all;done)
   |(refine Qd5 [6,1000000] 2 (h:=?_)
     refine Qdk (hx:=?_) (hH:=?_)<;>rw[hbad.out]<;>done)
 obtain⟨a1,a2,a3⟩:=hgood;have hat:=QcR a1 a2;obtain⟨j,hj⟩:=AA hat.1;have hj64:j<64:=by omega
 obtain⟨rf,hrf⟩: ∃rf,s.2.1.1[j]? =some rf:=⟨_,A1 (by omega)⟩;obtain⟨mv,hmv⟩: ∃mv,m[j]? =some mv:=⟨_,A1 (by omega)⟩;have hrr:=QbV (f:=fun n=>[dI n]) hrf;have hmr:=QbV (f:=fun n=>[dI n]) hmv;have hmb:=hb2 mv (A8 hmv)
 have hok2:AC (Pl.QbC s.2.1.1 most x= !(rf==0)):=Pm.hid (by
  rw[hok.out,a1,a2,decide_eq_true a3,hj,A9,A0,hrf];rfl)
 have hbu:AC (Pl.Qbf m x=m.set j (mv+1)):=Pm.hid (by unfold Pl.Qbf;rw[hj,A9,A0,hmv];rfl);have hbb:=Qi0 (M:=1000000000000+(k:Int)) (by omega) hb2 x;rw[a1] at c1;rw[a2] at c2;rw[<-hj] at hrr hmr;have hmr2:(m.map fun n=>[dI n])[0+x.pat.toNat]? =some [dI mv]:=by rw[AN];exact hmr
 clear hR hok hx hrf hmv a1 a2;generalize Pl.QbC s.2.1.1 most x=ck at*;generalize Pl.Qbf m x=bm at*
 repeat' first|refine kS ?_|refine qS (iy hr) ?_|refine qS (iy hrr) ?_|refine qS (Qcb Ty.h rfl rfl hmr2 rfl) ?_|refine(Qi8 Ty.h rfl rfl hmr2 rfl (kk:=?_))|refine kU ?_|refine kV ?_ ?_<;>intro q|fail
 all_goals first
  |(exfalso;simp only[decide_eq_true_eq,decide_eq_false_iff_not] at*;omega)
  |(refine Qd5 [6,1000000] 2 (h:=?_)
    refine Qdk (hx:=?_) (hH:=?_)<;>rw[hs1.out (by rw[hok2.out];simp_all)]<;>done)
  |(refine QbR (l.length -(k+1)) (by omega) ⟨k+1,bm,by omega,rfl,by rw[hbu.out];simpa using hm2,fun y hy=>by have:=hbb y hy;omega,Pm.hid (hs2.out (by rw[hok2.out];simp_all)),?_⟩
    rw[hbu.out,List.map_set]
    simp[keepE,go_sem,hj];done)
end Aw
end
section
namespace Aw
def Pl.cntQ(refs:List Int):List (Pl.Ptr×Int)->List Int->Bool×List Int
 |[],m=>(true,m)
 |(p,top)::l,m=>if Pl.QbC refs top p then Pl.cntQ refs l (Pl.Qbf m p) else(false,m)
def Qr1(refs:List Int)(most:Int): ∀(l:List Pl.Ptr) (m:List Int),Pl.cntP refs most l m=Pl.cntQ refs (l.map fun p=>(p,most)) m
 |[],m=>rfl
 |p::l,m=>by unfold Pl.cntP;rw[AU,Pl.cntQ,Qr1 refs most l]
def Qiz(refs:List Int)(l2:List (Pl.Ptr×Int)): ∀(l1:List (Pl.Ptr×Int)) (m:List Int),Pl.cntQ refs (l1++l2) m=if(Pl.cntQ refs l1 m).1 then Pl.cntQ refs l2 (Pl.cntQ refs l1 m).2 else Pl.cntQ refs l1 m
 |[],m=>rfl
 |(p,top)::l,m=>by
  rw[List.cons_append,Pl.cntQ,Pl.cntQ];split
  ·exact Qiz refs l2 l _
  ·rfl
theorem getD_set(m:List Int)(j i:Nat)(v:Int)(hj:j<m.length):(m.set j v).getD i 0=if j=i then v else m.getD i 0:=by
 grind
theorem Qpd(m:List Int)(p:Pl.Ptr)(i:Nat):m.getD i 0<=(Pl.Qbf m p).getD i 0:=by
 unfold Pl.Qbf
 grind
theorem Qlw(refs:List Int)(i:Nat): ∀(l:List (Pl.Ptr×Int)) (m:List Int),m.getD i 0<=(Pl.cntQ refs l m).2.getD i 0
 |[],m=>AX _
 |(p,top)::l,m=>by
  unfold Pl.cntQ;split
  ·exact Int.le_trans (Qpd m p i) (Qlw refs i l _)
  grind
theorem Qk6{refs:List Int}: ∀(l:List (Pl.Ptr×Int)) (m:List Int),m.length=64->(∀i,i<64->0<=m.getD i 0/\m.getD i 0<=refs.getD i 0)->
 Pl.Qbv refs l m=((Pl.cntQ refs l m).1&&(A5 64).all fun i=>decide ((Pl.cntQ refs l m).2.getD i 0<=refs.getD i 0))
 |[],m,_,h=>by
  unfold Pl.Qbv Pl.cntQ
  grind
 |(p,top)::l,m,hm,h=>by
  unfold Pl.Qbv Pl.cntQ;cases hc:Pl.QbC refs top p
  ·simp only[Bool.false_eq_true,if_false,AH]
   unfold Pl.QbC at hc
   grind
  ·simp only[if_true]
   unfold Pl.QbC at hc;simp only[A6,Bool.not_eq_true'] at hc;obtain⟨⟨⟨h1,h2⟩,h3⟩,h4⟩:=hc;have hp:=QcR h1 h2;have hb:=h p.pat.toNat (by omega);have hlt:p.pat.toNat<m.length:=by omega
   rw[h1,h2,h3];simp only[Bool.not_false,AW]
   by_cases hle:m.getD p.pat.toNat 0+1<=refs.getD p.pat.toNat 0
   ·rw[decide_eq_true hle,AW]
    refine Qk6 l (Pl.Qbf m p) ((Ql0 m p).trans hm) fun i hi=>?_
    have:=h i hi;unfold Pl.Qbf
    grind
   ·rw[decide_eq_false hle,AH]
    have hbad:((A5 64).all fun i=>decide ((Pl.cntQ refs l (Pl.Qbf m p)).2.getD i 0<=refs.getD i 0))=false:=by
     rw[List.all_eq_false];refine⟨p.pat.toNat,AI.2 (by omega),?_⟩;have h5:=Qlw refs p.pat.toNat l (Pl.Qbf m p);have h6:(Pl.Qbf m p).getD p.pat.toNat 0=m.getD p.pat.toNat 0+1:=by unfold Pl.Qbf;grind
     grind
    grind
def Pl.owes(s:Pm.Store):Bool:=
 (Pl.cntP s.2.1.1 (s.2.2.1 -1) s.2.2.2.1 (A2 64 0)).1&&(Pl.cntP s.2.1.1 s.2.2.2.2.1 s.2.2.2.2.2.1 (Pl.cntP s.2.1.1 (s.2.2.1 -1) s.2.2.2.1 (A2 64 0)).2).1&&
   (A5 64).all fun i=>decide ((Pl.cntP s.2.1.1 s.2.2.2.2.1 s.2.2.2.2.2.1 (Pl.cntP s.2.1.1 (s.2.2.1 -1) s.2.2.2.1 (A2 64 0)).2).2.getD i 0<=s.2.1.1.getD i 0)
theorem Qo8{s:Pm.Store}(h: ∀i,i<64->0<=s.2.1.1.getD i 0):Pl.Qbv s.2.1.1 (Pl.owed s) (A2 64 0)=Pl.owes s:=by
 have hz: ∀i,i<64->(A2 64 (0:Int)).getD i 0=0:=fun i hi=>by
  grind
 rw[Qk6 _ _ (by simp) fun i hi=>by grind];unfold Pl.owed Pl.owes;rw[Qiz,<-Qr1,<-Qr1]
 grind
theorem Qox{s:Pm.Space}(h:Pl.spaceOk s=true): ∀i,i<64->0<=s.1.getD i 0:=by
 intro i hi;unfold Pl.spaceOk at h;simp only[A6,AE] at h;have:=h.2 i (AI.2 hi);unfold Pl.Qdd Pl.QcQ at this;simp only[A6] at this;have:=this.1.1.2;simp[Pl.inR] at this
 grind
end Aw
end
section
open Go.RowKit
namespace Aw
variable{nm es t:List Nat}{x:List (List UInt8)}
def Pl.NmOk(mp:List (Int×D))(nm:List Nat):Prop:= ∀k:Nat,(mget mp (k:Int)).getD (.v (.int .i64 0))= .v (.int .i64 (nm.count k:Nat))
def Qs6:Pl.NmOk [] []:=fun k=>by simp[mget]
theorem Qqn{mp:List (Int×D)}(h:Pl.NmOk mp nm)(e:Nat):Pl.NmOk (mset mp (e:Int) (.v (.int .i64 ((nm.count e:Int)+1)))) (nm++[e]):=fun k=>by
 by_cases hk:e=k
 ·subst hk
  rw[QcX]
  grind
 ·rw[Qec (by omega),h k]
  grind
abbrev Pl.Qaj(x:List (List UInt8)):List Pl.Node:=x.map fun y=>(Pl.ng y).1
def Pl.TxOk(x:List (List UInt8)):Prop:= ∀y∈x,y=[]∨NodeB (Pl.ng y).1
def QdO(k:Nat):(Pl.Qaj x).getD k Pl.zn=(Pl.ng (x.getD k [])).1:=by
 rw[A0,A0,AM];cases x[k]? with
 |none=>simp[QhN]
 |some y=>rfl
theorem Qd9(h:Pl.TxOk x)(k:Nat):x.getD k []=[]/\(Pl.Qaj x).getD k Pl.zn=Pl.zn∨x.getD k []≠[]/\k<x.length/\NodeB ((Pl.Qaj x).getD k Pl.zn):=by
 rw[QdO]
 by_cases hy:x.getD k []=[]
 ·exact .inl ⟨hy,by rw[hy,QhN]⟩
 ·refine .inr ⟨hy,?_,?_⟩
  ·grind
  ·rcases h (x.getD k []) (by
    grind) with h|h
   ·grind
   ·exact h
theorem Qie(h:Pl.TxOk x)(k:Nat):Pl.Qak (Pl.Qaj x) k=0↔x.getD k []=[]:=by
 unfold Pl.Qak;rcases Qd9 h k with⟨h1,h2⟩|⟨h1,_,h2⟩
 ·rw[h2];exact⟨fun _=>h1,fun _=>rfl⟩
 ·have:=h2.kind
  grind
theorem QtT(h:Pl.TxOk x)(k:Nat):Pl.atN x (k:Int)=if Pl.Qak (Pl.Qaj x) k=0 then(Pl.zn,false) else((Pl.Qaj x).getD k Pl.zn,true):=by
 unfold Pl.atN;rw[A9]
 by_cases hk:Pl.Qak (Pl.Qaj x) k=0
 ·rw[if_pos hk,(Qie h k).1 hk];simp
 ·rw[if_neg hk]
  have hy:=fun e=>hk ((Qie h k).2 e)
  rcases Qd9 h k with⟨h1,_⟩|⟨_,h2,_⟩
  ·grind
  ·rw[if_pos,QdO]
   rw[A6];refine⟨by simp[Pl.inR];omega,by grind⟩
def Pl.QbK(kind:Nat->Nat)(ch:Nat->Option (List Nat))(links:Nat->Nat)(n:Nat):Bool:=
 match Gr.bfs kind ch (1+Gr.left kind n []) [0] [] with
 |none=>false
 |some nm=>(A5 n).all fun k=>decide (k=0)||decide (kind k=0)||decide (nm.count k=links k)
theorem QsD(kind:Nat->Nat)(n:Nat)(nm:List Nat):Gr.left kind n nm<=n:=by
 unfold Gr.left
 grind
theorem QoO{kind:Nat->Nat}{e:Nat}(h:kind e=0):Gr.inner kind (e::es) t nm=none:=by
 unfold Gr.inner;grind
theorem QoM{kind:Nat->Nat}{e:Nat}(h:kind e=1):Gr.inner kind (e::es) t nm=Gr.inner kind es t (nm++[e]):=by
 conv=>lhs;unfold Gr.inner
 grind
theorem QoN{kind:Nat->Nat}{e:Nat}(h:kind e=2)(hc:0<nm.count e):Gr.inner kind (e::es) t nm=none:=by
 unfold Gr.inner;grind
theorem Qq7{kind:Nat->Nat}{e:Nat}(h:kind e=2)(hc:nm.count e=0):Gr.inner kind (e::es) t nm=Gr.inner kind es (t++[e]) (nm++[e]):=by
 conv=>lhs;unfold Gr.inner
 grind
attribute [local irreducible] ASeq ADraw AWP Loc
def Pl.Qbl(refs:List Int)(i:Nat)(r:List UInt8):Bool:=decide (r.length<=128)&&((r==[])==(refs.getD i 0==0))
def Qoz{s:Pm.Store}(h:s.2.1.2.length=64):Pl.Qby s=(((A5 64).all fun i=>Pl.Qbl s.2.1.1 i (s.1.getD i []))&&decide (Pl.maxL s.2.1.2<=s.2.2.1)):=by
 have hne:s.2.1.2≠[]:=fun e=>by rw[e] at h;cases h
 rw[Bool.eq_iff_iff];unfold Pl.Qby Pl.Qbg Pl.Qbl;simp only[A6,AE,decide_eq_true_eq,AI];rw[maxL_le hne];constructor
 ·intro hh
  refine⟨fun i hi=>(hh i hi).1,fun y hy=>?_⟩;obtain⟨i,hi,rfl⟩:=List.getElem_of_mem hy;have:=(hh i (by omega)).2
  rwa [A0,A1 hi] at this
 ·rintro⟨h1,h2⟩ i hi
  refine⟨h1 i hi,?_⟩;rw[A0,A1 (by omega)];exact h2 _ (List.getElem_mem _)
theorem QnS(s:Pm.Store)(b1:s.2.1.1.length<=Pm.big)(b2:s.2.1.2.length<=Pm.big)(b3:s.2.2.2.1.length<=1000000000000)(b4:s.2.2.2.2.2.1.length<=1000000000000):
 Pure AF 58 [dSt s] (dB (Pl.Qan s)):=by
 have hd:AC (Pl.Qan s=((s.1.length==64)&&Pl.spaceOk s.2.1&&Pl.inR s.2.2.1 1 900&&Pl.inR s.2.2.2.2.1 0 (s.2.2.1 -1)&&Pl.Qby s&&Pl.Qbv s.2.1.1 (Pl.owed s) (A2 64 0))):=Pm.hid rfl;have cS:=Qtk s.2.1 b1 b2;have cT:=bIn s.2.2.1 1 900;have cQp:=bIn s.2.2.2.2.1 0 (s.2.2.1 -1)
 by_cases hlen:s.1.length=64
 rotate_left
 ·have hf:Pl.Qan s=false:=by rw[hd.out,beq_eq_false_iff_ne.2 hlen];rfl
  refine kE ?_;refine QbP 0 (h:=?_);have hne:((s.1.length:Int) !=64)=true:=by rw[bne_iff_ne];omega
  repeat' first|refine kA ?_|refine kV ?_ ?_<;>intro q|fail
  all_goals first|refine QbQ (hx:=?_);rw[hf]|exfalso;simp_all;done
 have hne:((s.1.length:Int) !=64)=false:=by rw[hlen];rfl
 cases hsp:Pl.spaceOk s.2.1
 ·have hf:Pl.Qan s=false:=by rw[hd.out,hsp];simp
  rw[hsp] at cS;refine kE ?_;refine QbP 0 (h:=?_)
  repeat' first|refine kA ?_|refine kV ?_ ?_<;>intro q|fail
  all_goals first|refine QbQ (hx:=?_);rw[hf]|exfalso;simp_all;done
 cases hT:Pl.inR s.2.2.1 1 900
 ·have hf:Pl.Qan s=false:=by rw[hd.out,hT];simp
  rw[hT] at cT;rw[hsp] at cS;refine kE ?_;refine QbP 0 (h:=?_)
  repeat' first|refine kA ?_|refine kV ?_ ?_<;>intro q|fail
  all_goals first|refine QbQ (hx:=?_);rw[hf]|exfalso;simp_all;done
 have hTb:1<=s.2.2.1/\s.2.2.1<=900:=by simpa[Pl.inR] using hT
 cases hK:Pl.inR s.2.2.2.2.1 0 (s.2.2.1 -1)
 ·have hf:Pl.Qan s=false:=by rw[hd.out,hK];simp
  rw[hT] at cT;rw[hsp] at cS;rw[hK] at cQp;refine kE ?_;refine QbP 0 (h:=?_)
  repeat' first|refine kA ?_|refine kV ?_ ?_<;>intro q|fail
  all_goals first|refine QbQ (hx:=?_);rw[hf]|exfalso;simp_all;done
 have hsp1:s.2.1.1.length=64/\s.2.1.2.length=64:=by simp[Pl.spaceOk] at hsp;exact hsp.1
 have cM:=bMax s.2.1.2 (by omega) (by omega)
 have hd2:AC (Pl.Qan s=(((A5 64).all fun i=>Pl.Qbl s.2.1.1 i (s.1.getD i []))&&decide (Pl.maxL s.2.1.2<=s.2.2.1)&&Pl.owes s)):=Pm.hid (by
  rw[hd.out,hlen,hsp,hT,hK,Qoz hsp1.2,Qo8 (Qox hsp)];rfl)
 rw[hT] at cT;rw[hsp] at cS;rw[hK] at cQp;clear hd hsp hT hK;have hrow:AC (∀k,Pl.Qbl s.2.1.1 k (s.1.getD k [])=(decide ((s.1.getD k []).length<=128)&&((s.1.getD k []==[])==(s.2.1.1.getD k 0==0)))):=Pm.hid fun k=>rfl
 have hrf:AC (∀k,k<64->Pl.Qbl s.2.1.1 k (s.1.getD k [])=false->Pl.Qan s=false):=Pm.hid fun k hk h=>by
  rw[hd2.out,Pl.Qcg hk h];rfl
 have how:AC (Pl.owes s=((Pl.cntP s.2.1.1 (s.2.2.1 -1) s.2.2.2.1 (A2 64 0)).1&&(Pl.cntP s.2.1.1 s.2.2.2.2.1 s.2.2.2.2.2.1 (Pl.cntP s.2.1.1 (s.2.2.1 -1) s.2.2.2.1 (A2 64 0)).2).1&&
  (A5 64).all fun i=>decide ((Pl.cntP s.2.1.1 s.2.2.2.2.1 s.2.2.2.2.2.1 (Pl.cntP s.2.1.1 (s.2.2.1 -1) s.2.2.2.1 (A2 64 0)).2).2.getD i 0<=s.2.1.1.getD i 0))):=Pm.hid rfl
 have fa1:=QfE s.2.1.1 (s.2.2.1 -1) s.2.2.2.1 (A2 64 0) 0 (by decide) (fun y hy=>by rw[(AK.1 hy).2];decide);have dd1:=bCount s hsp1.1 s.2.2.2.1 b3 (s.2.2.1 -1) (A2 64 0) (by simp) (fun y hy=>by rw[(AK.1 hy).2];decide) 0;generalize Pl.cntP s.2.1.1 (s.2.2.1 -1) s.2.2.2.1 (A2 64 0)=r1 at*;obtain⟨o1,m1⟩:=r1;simp only at fa1 how;have fa2:=QfE s.2.1.1 s.2.2.2.2.1 s.2.2.2.2.2.1 m1 1000000000000 (by decide) (fun y hy=>by have:=fa1.2 y hy;omega);have dd2:=bCount s hsp1.1 s.2.2.2.2.2.1 b4 s.2.2.2.2.1 m1 (by simpa using fa1.1) (fun y hy=>by have:=fa1.2 y hy;omega) 0;generalize Pl.cntP s.2.1.1 s.2.2.2.2.1 s.2.2.2.2.2.1 m1=r2 at*;obtain⟨o2,m2⟩:=r2;simp only at fa2 how;generalize Pl.maxL s.2.1.2=mx at*;generalize hst:Pl.Qan s=res at*;clear hst b1 b2;refine kE ?_;refine QbP 0 (h:=?_)
 repeat' first|refine kA ?_|refine kV ?_ ?_<;>intro q|fail
 all_goals first
  |(exfalso;clear hrow how hrf hd2 dd1 dd2;simp_all;done)
  |(refine QbQ (hx:=?_)
    rw[hd2.out,decide_eq_false (by clear hrow how hrf hd2 dd1 dd2;simp at*;omega),AS,AH];done)
  |skip
 have hmx:decide (mx<=s.2.2.1)=true:=decide_eq_true (by clear hrow how hrf hd2 dd1 dd2;simp at*;omega)
 refine QbS (fun m st=> ∃k:Nat,k<=64/\m=64 -k/\AC ((A5 k).all (fun i=>Pl.Qbl s.2.1.1 i (s.1.getD i []))=true)/\
  st=⟨102,[(1,.d (.pd (rSt s))),(44,.d (dStrs s.1)),(45,.d (dI s.1.length)),(46,.d (dI k))],[]⟩) [1,44,45,46] 0 64 ⟨0,by omega,rfl,Pm.hid rfl,by simp[keepE,go_sem]⟩ (round:=?_)
 rintro m st ⟨k,hk,rfl,hA,rfl⟩
 repeat refine kG ?_
 cases q3:decide ((k:Int)<(s.1.length:Int));rotate_left
 ·have hk2:k<64:=by simp at q3;omega
  obtain⟨r,hr0⟩: ∃r,s.1[k]? =some r:=⟨_,A1 (by omega)⟩;obtain⟨rf,hf0⟩: ∃rf,s.2.1.1[k]? =some rf:=⟨_,A1 (by omega)⟩;have hr:=QbV (f:=fun s=>[dS s]) hr0;have hf:=QbV (f:=fun n=>[dI n]) hf0;have hbad:=Pm.hid (hrf.out k hk2);have hgood:AC (Pl.Qbl s.2.1.1 k (s.1.getD k [])=true->(A5 (k+1)).all (fun i=>Pl.Qbl s.2.1.1 i (s.1.getD i []))=true):=Pm.hid fun h=>Pl.Qcm hA.out h
  have hro:AC (Pl.Qbl s.2.1.1 k (s.1.getD k [])=(!decide ((r.length:Int)>128)&&((r==[])==(rf==0)))):=Pm.hid (by
   rw[hrow.out k];simp only[A0,hr0,hf0,AG]
   have:decide (r.length<=128)= !decide ((r.length:Int)>128):=by
    by_cases h:r.length<=128
    ·rw[decide_eq_true h,decide_eq_false (by omega)];rfl
    ·rw[decide_eq_false h,decide_eq_true (by omega)];rfl
   rw[this])
  clear hrow how hrf hd2 dd1 dd2 hr0 hf0 hA fa1 fa2;generalize Pl.Qbl s.2.1.1 k (s.1.getD k [])=ro at*
  repeat' first|refine kS ?_|refine qS (iy hr) ?_|refine qS (iy hf) ?_|refine qS (QdT Tryz.underlying4 rfl rfl) ?_|refine kU ?_|refine kV ?_ ?_<;>intro q|fail
  all_goals clear hr hf
  all_goals first
   |(exfalso;omega)
   |(refine QbQ (hx:=?_)
     rw[hbad.out (by rw[hro.out];clear hbad hgood hro;simp_all)];done)
   |exact QbR (64 -(k+1)) (by omega) ⟨k+1,by omega,rfl,Pm.hid (hgood.out (by rw[hro.out];clear hbad hgood hro;simp_all)),by simp[keepE,go_sem]⟩
 have hk64:k=64:=by simp at q3;omega
 subst hk64
 have hd3:AC (res=Pl.owes s):=Pm.hid (by
  rw[hd2.out,hA.out,hmx];rfl)
 clear hrow hrf hd2 hA;simp only[List.map_replicate] at dd1;simp only at dd1 dd2
 have hgl1: ∀(L:List AV) (B:Blk) (g:AV),g∈[AV.ptr 0 0 0,AV.osl 1 0 0 64]->AV.ptr 1 0 0∈L->B.parts=[]->g.ren (rho [1,0] 2)∈L++[B,Blk.row 0 [.osl 0 0 0 64]].flatMap Blk.parts:=fun L B g hg hL hB=>by
  simp only[AT,List.not_mem_nil,or_false] at hg;rcases hg with rfl|rfl
  ·exact List.mem_append_left _ hL
  ·refine List.mem_append_right _ ?_
   rw[List.flatMap_cons,hB];simp[Blk.parts,AV.parts,AV.ren,rho]
 repeat' first|refine kS ?_|refine qS (QjL rfl rfl) ?_|refine(Qfz [1,0] dd1 cK (hgl:=fun g hg=>hgl1 _ _ g hg (by simp[AV.parts,go_sem]) rfl) (k:=?_))|refine(Qfz [1,0] dd2 cK (hgl:=fun g hg=>hgl1 _ _ g hg (by simp[AV.parts,go_sem]) rfl) (k:=?_))|refine kU ?_|refine kV ?_ ?_<;>intro q|fail
 ·refine QbQ (hx:=?_)
  rw[hd3.out,how.out,(by simpa using q:o1=false)];rfl
 ·refine QbQ (hx:=?_)
  rw[hd3.out,how.out,(by simpa using q:o2=false),AS];rfl
 have hm2:m2.length=64:=by rw[fa2.1,fa1.1];simp
 have hd4:AC (res=(A5 64).all fun i=>decide (m2.getD i 0<=s.2.1.1.getD i 0)):=Pm.hid (by
  rw[hd3.out,how.out];clear hd3 how dd1 dd2
  simp_all)
 clear hd3 how dd1 dd2 fa1 fa2 cS cT cQp cM
 refine QbS (fun m st=> ∃k:Nat,k<=64/\m=64 -k/\AC ((A5 k).all (fun i=>decide (m2.getD i 0<=s.2.1.1.getD i 0))=true)/\
  st=⟨102,[(1,.d (.pd (rSt s))),(86,.osl 0 0 0 64),(87,.d (dI 64)),(88,.d (dI k))],[.arr 0 1 3 (m2.map fun n=>[dI n])]⟩) [1,86,87,88] 1 64 ⟨0,by omega,rfl,Pm.hid rfl,by simp[keepE,go_sem]⟩ (round:=?_)
 rintro m st ⟨k,hk,rfl,hA,rfl⟩
 repeat refine kG ?_
 cases q5:decide ((k:Int)<64)
 ·repeat refine kA ?_
  refine QbQ (hx:=?_);have:k=64:=by simp at q5;omega
  subst this;rw[hd4.out,hA.out]
 have hk2:k<64:=by simp at q5;omega
 obtain⟨mv,hmv⟩: ∃mv,m2[k]? =some mv:=⟨_,A1 (by omega)⟩;obtain⟨rf,hf0⟩: ∃rf,s.2.1.1[k]? =some rf:=⟨_,A1 (by omega)⟩;have hmr:=QbV (f:=fun n=>[dI n]) hmv;have hf:=QbV (f:=fun n=>[dI n]) hf0;have hmr2:(m2.map fun n=>[dI n])[0+((k:Nat):Int).toNat]? =some [dI mv]:=by rw[AN];exact hmr
 have hbad:AC (decide (mv>rf)=true->res=false):=Pm.hid fun h=>by
  rw[hd4.out];refine Pl.Qcg hk2 ?_;simp only[A0,hmv,hf0,AG];exact decide_eq_false (by simp at h;omega)
 have hgood:AC (decide (mv>rf)=false->(A5 (k+1)).all (fun i=>decide (m2.getD i 0<=s.2.1.1.getD i 0))=true):=Pm.hid fun h=>Pl.Qcm hA.out (by
  simp only[A0,hmv,hf0,AG]
  exact decide_eq_true (by simp at h;omega))
 clear hd4 hA hmv hf0
 repeat' first|refine kS ?_|refine qS (Qcb Ty.h rfl rfl hmr2 rfl) ?_|refine qS (iy hf) ?_|refine kU ?_|refine kV ?_ ?_<;>intro q|fail
 all_goals first
  |(refine QbQ (hx:=?_)
    rw[hbad.out (by assumption)];done)
  |exact QbR (64 -(k+1)) (by omega) ⟨k+1,by omega,rfl,Pm.hid (hgood.out (by assumption)),by simp[keepE,go_sem]⟩
attribute [local irreducible] mget mset AStep Fg.PlanF Fg.Flts
def bLinked(s:Pm.Store)(t:Pl.Tree)(x:List (List UInt8))(hx16:x.length<=16)(hx:Pl.TxOk x)(m:List (Int×D))(L:Int->List Pl.Ent)(hm:Pl.QbL m L)(ch:Nat->Option (List Nat))(hch: ∀k:Nat,(ch k).getD []=(L k).map fun e=>e.2.toNat):
 Pure AF 118 [.pd (rFiles s t x m)] (dB (Pl.QbK (Pl.Qak (Pl.Qaj x)) ch (Pl.QaG (Pl.Qaj x)) x.length)):=by
 have hlk: ∀k,Pl.Qak (Pl.Qaj x) k=2->k<x.length:=fun k hk=>by
  have:=QcA (ns:=Pl.Qaj x) (k:=k) (by omega);rwa [AQ] at this
 obtain⟨kind,hkind⟩: ∃kind,kind=Pl.Qak (Pl.Qaj x):=⟨_,rfl⟩;obtain⟨res,hres⟩: ∃res,res=Pl.QbK kind ch (Pl.QaG (Pl.Qaj x)) x.length:=⟨_,rfl⟩;rw[<-hkind] at hlk⊢;rw[<-hres];have hB0:AC (Gr.bfs kind ch (1+Gr.left kind x.length []) [0] []=none->res=false):=Pm.hid fun h=>by rw[hres,Pl.QbK,h]
 have hB1:AC (∀nm,Gr.bfs kind ch (1+Gr.left kind x.length []) [0] []=some nm->res=(A5 x.length).all fun k=>decide (k=0)||decide (kind k=0)||decide (nm.count k=Pl.QaG (Pl.Qaj x) k)):=Pm.hid fun nm h=>by rw[hres,Pl.QbK,h]
 clear hres;have hll:=QsD kind x.length [];obtain⟨F0,hF0⟩: ∃F0,F0=1+Gr.left kind x.length []:=⟨_,rfl⟩;have hF17:F0<=17:=by omega
 rw[<-hF0] at hB0 hB1;have hhk:=Pm.hid hkind
 replace hlk:=Pm.hid hlk
 replace hF0:=Pm.hid hF0
 refine kB ?_
 repeat' first|refine kS ?_|refine stepS2 (Qd0) (k:=?_)|refine kU ?_|fail
 refine QbS (fun mm st=> ∃(g:Nat) (pre todo nm:List Nat) (mp:List (Int×D)),AC (Gr.bfs kind ch F0 [0] []=Gr.bfs kind ch mm todo nm)/\AC (todo.length+Gr.left kind x.length nm<=mm)/\AC (nm.length+12*mm<=12*F0)/\AC (Pl.NmOk mp nm)/\
  (todo≠[]/\st=⟨89,[(0,.d (.pd (rFiles s t x m))),(3,.mp 0 0),(4,.osl 1 g pre.length todo.length)],[.mp 0 (imap mp),.arr g 1 3 ((pre++todo).map fun n=>[dI (n:Nat)])]⟩∨
   todo=[]/\st=⟨89,[(0,.d (.pd (rFiles s t x m))),(3,.mp 0 0),(4,.d (.sl false 1 []))],[.mp 0 (imap mp),.arr g 1 3 (pre.map fun n=>[dI (n:Nat)])]⟩)) [0,3,4] 2 F0
  ⟨0,[],[0],[],[],Pm.hid rfl,Pm.hid (by rw[hF0.out];simp),Pm.hid (by simp),Pm.hid Qs6,.inl ⟨by simp,by simp[keepE,go_sem,imap]⟩⟩ (round:=?_)
 rintro mm st ⟨g,pre,todo,nm,mp,hR,hlf,hnl,hN,hst⟩;rcases hst with⟨hne,rfl⟩|⟨rfl,rfl⟩;rotate_left
 ·have hn2:Gr.bfs kind ch F0 [0] []=some nm:=by rw[hR.out];unfold Gr.bfs;rfl
  have hr1:=Pm.hid (hB1.out nm hn2);clear hB0 hB1 hR hlf hn2 hm hch hlk hF0;have hcb: ∀k,(nm.count k:Nat)<=nm.length:=fun k=>AJ
  repeat' first|refine kS ?_|refine qS (Qcv rfl) ?_|refine kU ?_|fail
  refine QbS (fun mm st=> ∃k,k<=x.length/\mm=x.length -k/\AC ((A5 k).all (fun k=>decide (k=0)||decide (kind k=0)||decide (nm.count k=Pl.QaG (Pl.Qaj x) k))=true)/\
   st=⟨89,[(65,.d (tNds x)),(66,.d (dI x.length)),(67,.d (dI k)),(3,.mp 0 0)],[.mp 0 (imap mp)]⟩) [65,66,67,3] 1 x.length ⟨0,by omega,rfl,Pm.hid rfl,by simp[keepE,go_sem]⟩ (round:=?_)
  rintro m2 st ⟨k,hk,rfl,hA,rfl⟩
  repeat refine kG ?_
  cases q3:decide ((k:Int)<(x.length:Int))
  ·repeat refine kA ?_
   refine QbQ (hx:=?_);have:k=x.length:=by simp at q3;omega
   rw[hr1.out,<-this,hA.out]
  have hk2:k<x.length:=by simp at q3;omega
  obtain⟨y,hy⟩: ∃y,x[k]? =some y:=⟨_,A1 hk2⟩;have hyd:x.getD k []=y:=by rw[A0,hy];rfl
  have hr:=QbV (f:=fun x=>[Pl.ndD x]) hy;have T:AC ((decide (k=0)||decide (kind k=0)||decide (nm.count k=Pl.QaG (Pl.Qaj x) k))=true->(A5 (k+1)).all (fun k=>decide (k=0)||decide (kind k=0)||decide (nm.count k=Pl.QaG (Pl.Qaj x) k))=true):=fun h=>Pl.Qcm (p:=fun k=>decide (k=0)||decide (kind k=0)||decide (nm.count k=Pl.QaG (Pl.Qaj x) k)) hA.out h
  have F:AC ((decide (k=0)||decide (kind k=0)||decide (nm.count k=Pl.QaG (Pl.Qaj x) k))=false->res=false):=fun h=>by
   rw[hr1.out,Pl.Qcg (p:=fun k=>decide (k=0)||decide (kind k=0)||decide (nm.count k=Pl.QaG (Pl.Qaj x) k)) hk2 h]
  have hlook:=hN.out k;have hkz:=Qie hx k;have hnx:=QdO (x:=x) k;rw[hyd] at hkz hnx;rw[<-hkind] at hkz;rcases Qd9 hx k with⟨h1,_⟩|⟨h1,_,hnb⟩
  ·rw[hyd] at h1
   have e:Pl.ndD y= .v (.pointer none):=by unfold Pl.ndD;rw[if_pos h1]
   rw[e] at hr;have ht:=Pm.hid (T.out (by rw[decide_eq_true (p:=kind k=0) (hkz.2 h1)];simp));clear T F hA hr1 hkz hnx hyd hy hx
   repeat' first|refine kS ?_|refine qS (iy hr) ?_|refine qD (Qhe AO rfl) ?_|refine kU ?_|fail
   all_goals first|exfalso;simp at*;done|exact QbR (x.length -(k+1)) (by omega) ⟨k+1,by omega,rfl,ht,by simp[keepE,go_sem]⟩
  ·rw[hyd] at h1
   have e:Pl.ndD y= .pd (rNode (Pl.ng y).1):=by unfold Pl.ndD;rw[if_neg h1]
   rw[e] at hr;rw[hnx] at hnb;have hlink:Pl.QaG (Pl.Qaj x) k=(Pl.ng y).1.links.toNat:=by unfold Pl.QaG;rw[hnx]
   have hkn: ¬kind k=0:=fun h=>h1 (hkz.1 h)
   rw[hlink,decide_eq_false hkn] at T F;have hlb:=hnb.links;clear hA hr1 hkz hnx hyd hy hx e hlink hnb;generalize (Pl.ng y).1=N at*;obtain⟨kd,links,size,⟨⟨p1,p2,p3,p4,p5⟩,depth,many⟩⟩:=N;simp only at T F hlb;obtain⟨lk,rfl⟩:=AA (show 0<=links by omega);rw[A9] at T F;generalize AY k nm=cn at*
   repeat' first|refine kS ?_|refine qS (iy hr) ?_|refine qD (Qgh AO rfl) ?_|refine qD (Qcv rfl) ?_|refine qD (QcM A3 A4 (z:= .int .i64 0) (by kernel_rfl) rfl rfl rfl hlook) ?_|refine kU ?_|refine kV ?_ ?_<;>intro q|fail
   all_goals first
    |(have h9:((decide (k=0)||false||decide (cn=lk))=false):=by
       rw[decide_eq_false (show ¬k=0 by clear T F hlook hr hN hnl hhk;simp at*;omega),decide_eq_false (show ¬cn=lk by clear T F hlook hr hN hnl hhk;simp at*;omega)];rfl
      refine QbQ (hx:=?_)
      rw[F.out h9];done)
    |(have h9:((decide (k=0)||false||decide (cn=lk))=true):=by
       by_cases hk0:k=0
       ·rw[decide_eq_true hk0];rfl
       ·rw[decide_eq_true (show cn=lk by clear T F hlook hr hN hnl hhk;simp at*;omega)];simp
      exact QbR (x.length -(k+1)) (by omega) ⟨k+1,by omega,rfl,Pm.hid (T.out h9),by simp[keepE,go_sem]⟩)
 obtain⟨f,td,rfl⟩:=List.exists_cons_of_ne_nil hne;obtain⟨m0,rfl⟩: ∃m0,mm=m0+1:=⟨mm -1,by have:=hlf.out;simp only[AB] at this;omega⟩;have hfr:((pre++f::td).map fun n=>[dI (n:Nat)])[pre.length+((0:Int)).toNat]? =some [dI (f:Nat)]:=by simp
 obtain⟨hE,hg⟩:=hm (f:Nat) (by omega);have hcf:=hch f;generalize L (f:Nat)=es at*
 have hst:Gr.bfs kind ch F0 [0] []=match Gr.inner kind (es.map fun e=>e.2.toNat) td nm with|none=>none|some (t',nm')=>Gr.bfs kind ch m0 t' nm':=by
  rw[hR.out,<-hcf]
  conv=>lhs;unfold Gr.bfs
  rfl
 replace hst:=Pm.hid hst
 have hes:es.length<=12:=by unfold Pl.Qam at hE;rw[A6,decide_eq_true_eq] at hE;exact hE.2
 have hids:=Pm.hid (ent_b hE);have hll0:=Pm.hid hll;have hlf2:=Pm.hid (show td.length+Gr.left kind x.length nm<=m0 by have:=hlf.out;simp only[AB] at this;omega)
 have hbnd:nm.length<=204/\td.length<=17:=by
  have:=hnl.out;have:=hlf2.out;omega
 clear hE hcf hB1 hR hm hch hlf hne hll
 have hg:mget m (f:Nat)=some (.sl true 2 (es.map rEnt))∨mget m (f:Nat)=none/\es.map rEnt=[]:=by
  rcases hg with h|⟨h1,h2⟩
  ·exact .inl h
  ·exact .inr ⟨h1,by rw[h2];rfl⟩
 repeat' first|refine kS ?_|refine qD (Qcv rfl) ?_|refine qS (Qcv rfl) ?_|refine qD (Qcb Ty.h rfl rfl hfr rfl) ?_|refine qD (Qhf Tryz.underlying116 A4 (by kernel_rfl) rfl rfl hg) ?_|refine kU ?_|refine kV ?_ ?_<;>intro q|fail
 rotate_left
 ·exfalso;simp at*
 clear hfr hg
 refine QbS (fun m2 st=> ∃(j g:Nat) (pre t2 nm2:List Nat) (mp:List (Int×D)),j<=es.length/\m2=es.length -j/\AC (Gr.inner kind (es.map fun e=>e.2.toNat) td nm=Gr.inner kind ((es.drop j).map fun e=>e.2.toNat) t2 nm2)/\nm2.length=nm.length+j/\t2.length<=td.length+j/\AC (Pl.NmOk mp nm2)/\
  st=⟨89,[(25,.d (tEnts es)),(26,.d (dI es.length)),(27,.d (dI j)),(0,.d (.pd (rFiles s t x m))),(3,.mp 0 0),(4,.osl 1 g pre.length (t2.length+1))],[.mp 0 (imap mp),.arr g 1 3 ((pre++f::t2).map fun n=>[dI (n:Nat)])]⟩) [25,26,27,0,3,4] 2 es.length ⟨0,g,pre,td,nm,mp,by omega,rfl,Pm.hid rfl,rfl,by omega,hN,by simp[keepE,go_sem]⟩ (round:=?_)
 clear hN;rintro m2 st ⟨j,g,pre,t2,nm2,mp,hj,rfl,hI,hn2,ht2,hN,rfl⟩
 repeat refine kG ?_
 cases q3:decide ((j:Int)<(es.length:Int))
 ·have hje:j=es.length:=by simp at q3;omega
  have hin:Gr.inner kind (es.map fun e=>e.2.toNat) td nm=some (t2,nm2):=by rw[hI.out,hje,AP];rfl
  have hlf3:=Pm.hid (Gr.QfA hlk.out hin);have hst2:AC (Gr.bfs kind ch F0 [0] []=Gr.bfs kind ch m0 t2 nm2):=Pm.hid (by rw[hst.out,hin]);clear hst hin hI;cases t2 with
  |nil=>
   have hrw:((pre++[f]).map fun n=>[dI (n:Nat)])=(pre++f::[]).map fun n=>[dI (n:Nat)]:=rfl
   repeat' first|refine kS ?_|refine qS (QoG rfl rfl rfl rfl rfl (by omega) (by simp)) ?_|refine kU ?_|fail
   refine QbR m0 (by omega) ⟨g,pre++[f],[],nm2,mp,hst2,Pm.hid ?_,Pm.hid ?_,hN,.inr ⟨rfl,?_⟩⟩
   ·have:=hlf3.out;have:=hlf2.out;omega
   ·have:=hnl.out;omega
   ·simp[keepE,go_sem]
  |cons a t3=>
   repeat' first|refine kS ?_|refine qS (Qlb rfl rfl rfl rfl rfl (by omega) (by simp;omega)) ?_|refine kU ?_|fail
   refine QbR m0 (by omega) ⟨g,pre++[f],a::t3,nm2,mp,hst2,Pm.hid ?_,Pm.hid ?_,hN,.inl ⟨by simp,?_⟩⟩
   ·have:=hlf3.out;have:=hlf2.out;omega
   ·have:=hnl.out;omega
   ·simp[keepE,go_sem]
 have hj2:j<es.length:=by simp at q3;omega
 obtain⟨e,he⟩: ∃e,es[j]? =some e:=⟨_,A1 hj2⟩;have hr:=QbV (f:=rEnt) he;have heb:=(hids.out e (A8 he)).2;have hdr:es.drop j=e::es.drop (j+1):=by rw[List.drop_eq_getElem_cons hj2,(List.getElem?_eq_some_iff.1 he).2]
 replace hI:=hI.out
 rw[hdr,AU] at hI;obtain⟨nmE,id⟩:=e;simp only at heb hI;obtain⟨kid,rfl⟩:=AA (show 0<=id by omega);rw[A9] at hI
 replace hI:=Pm.hid hI
 have c1:=bNodeAt x (kid:Int) (by omega);rw[QtT hx kid,<-hkind] at c1;have hlook:=hN.out kid;have hcb:nm2.count kid<=nm2.length:=AJ;have hNs:=Pm.hid (Qqn hN.out kid);clear he hdr hN
 by_cases hk0:kind kid=0
 ·rw[if_pos hk0] at c1
  have hbad:=Pm.hid (hB0.out (by rw[hst.out,hI.out,QoO hk0]));clear hst hI hNs
  repeat' first|refine kS ?_|refine qS (iy hr) ?_|(show AWP _ (.region 8 _ _) _ _;refine(QbP 2 (h:=Fg.awp_drawF (id:=8) [0,1,2,3,4,5,6,7,8,9] [11] ?_)))|refine(Fg.aw_fltL (hl:=fun H=>Qcv rfl) (k:=?_))|refine(Fg.aw_fltL (hl:=fun H=>Qcu cK c1 rfl) (k:=?_))|refine kU ?_|fail
  refine QbQ (hx:=?_);rw[hbad.out]
 rw[if_neg hk0] at c1;have hkN:kind kid=((Pl.Qaj x).getD kid Pl.zn).kind.toNat:=by rw[hkind];rfl
 have hNB:NodeB ((Pl.Qaj x).getD kid Pl.zn):=by
  rcases Qd9 hx kid with⟨_,h2⟩|⟨_,_,h2⟩
  ·rw[h2] at hkN;exact absurd hkN hk0
  ·exact h2
 have hNk:=hNB.kind;clear hNB;generalize (Pl.Qaj x).getD kid Pl.zn=N at*;obtain⟨kd,links,size,⟨⟨p1,p2,p3,p4,p5⟩,depth,many⟩⟩:=N;simp only at hNk hkN c1;generalize hcn:AY kid nm2=cn at*;have hlook2:(mget (mset mp (kid:Int) (dI ((cn:Int)+1))) (kid:Int)).getD (.v (.int .i64 0))=dI ((cn:Int)+1):=by rw[QcX];rfl
 rcases hNk with rfl|rfl
 ·have hk1:kind kid=1:=hkN
  have hI2:=hI.out;rw[QoM hk1] at hI2
  replace hI2:=Pm.hid hI2
  clear hI
  repeat' first|refine kS ?_|refine qS (iy hr) ?_|(show AWP _ (.region 8 _ _) _ _;refine(QbP 2 (h:=Fg.awp_drawF (id:=8) [0,1,2,3,4,5,6,7,8,9] [11] ?_)))|refine(Fg.aw_fltL (hl:=fun H=>Qcv rfl) (k:=?_))|refine(Fg.aw_fltL (hl:=fun H=>Qcu cK c1 rfl) (k:=?_))|refine qS (QcM A3 A4 (z:= .int .i64 0) (by kernel_rfl) rfl rfl rfl hlook) ?_|refine(Qg1 A3 A4 (kk:=?_))|refine kU ?_|fail
  all_goals first|exfalso;simp at*;done|refine QbR (es.length -(j+1)) (by omega) ⟨j+1,g,pre,t2,nm2++[kid],_,by omega,rfl,hI2,by simp;omega,by omega,hNs,by simp[keepE,go_sem]⟩
 have hk2:kind kid=2:=hkN
 by_cases hc0:cn=0
 rotate_left
 ·have hbad:=Pm.hid (hB0.out (by rw[hst.out,hI.out,QoN hk2 (by omega)]))
  clear hst hI hNs
  repeat' first|refine kS ?_|refine qS (iy hr) ?_|(show AWP _ (.region 8 _ _) _ _;refine(QbP 2 (h:=Fg.awp_drawF (id:=8) [0,1,2,3,4,5,6,7,8,9] [11] ?_)))|refine(Fg.aw_fltL (hl:=fun H=>Qcv rfl) (k:=?_))|refine(Fg.aw_fltL (hl:=fun H=>Qcu cK c1 rfl) (k:=?_))|refine qS (QcM A3 A4 (z:= .int .i64 0) (by kernel_rfl) rfl rfl rfl hlook) ?_|refine(Qg1 A3 A4 (kk:=?_))|refine qS (QcM A3 A4 (z:= .int .i64 0) (by kernel_rfl) rfl rfl rfl hlook2) ?_|refine kU ?_|refine kV ?_ ?_<;>intro q|fail
  all_goals first
   |(exfalso;simp only[decide_eq_true_eq,decide_eq_false_iff_not] at*;omega)
   |(refine QbQ (hx:=?_)
     rw[hbad.out];done)
 have hI2:=hI.out;rw[Qq7 hk2 (by omega)] at hI2
 replace hI2:=Pm.hid hI2
 clear hI
 repeat' first|refine kS ?_|refine qS (iy hr) ?_|(show AWP _ (.region 8 _ _) _ _;refine(QbP 2 (h:=Fg.awp_drawF (id:=8) [0,1,2,3,4,5,6,7,8,9] [11] ?_)))|refine(Fg.aw_fltL (hl:=fun H=>Qcv rfl) (k:=?_))|refine(Fg.aw_fltL (hl:=fun H=>Qcu cK c1 rfl) (k:=?_))|refine qS (QcM A3 A4 (z:= .int .i64 0) (by kernel_rfl) rfl rfl rfl hlook) ?_|refine(Qg1 A3 A4 (kk:=?_))|refine qS (QcM A3 A4 (z:= .int .i64 0) (by kernel_rfl) rfl rfl rfl hlook2) ?_|refine(aw_appO (newrows:=[[dI (kid:Nat)]]) rfl (hol:=?_) (hx:=QpH rfl rfl rfl (by decide) ?_) (hnp:=?_) (hb:=?_) (hm:=?_) (k1:=?_) (k2:=?_))|refine kU ?_|refine kV ?_ ?_<;>intro q|fail
 all_goals first
  |(exfalso;simp only[decide_eq_true_eq] at*;omega)
  |(simp;done)
  |(simp;omega)
  |(intro r hr d hd
    obtain rfl:=AD.1 hr;obtain rfl:=AD.1 hd
    rfl)
  |(refine QbR (es.length -(j+1)) (by omega) ⟨j+1,g+1,pre,t2++[kid],nm2++[kid],_,by omega,rfl,hI2,by simp;omega,by simp;omega,hNs,?_⟩;simp[keepE,go_sem];done)
  |(refine QbR (es.length -(j+1)) (by omega) ⟨j+1,g+1,[],t2++[kid],nm2++[kid],_,by omega,rfl,hI2,by simp;omega,by simp;omega,hNs,?_⟩;simp[keepE,go_sem];done)
