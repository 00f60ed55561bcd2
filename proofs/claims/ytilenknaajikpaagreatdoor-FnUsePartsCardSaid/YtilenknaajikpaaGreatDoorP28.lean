/- Of parts_card; no condition. -/
import Derived.Test.YtilenknaajikpaaGreatDoorP24
import Derived.Test.YtilenknaajikpaaGreatDoorP25
set_option linter.all false
set_option maxRecDepth 100000
set_option maxHeartbeats 16000000
open Bool renaming and_eq_true->A6,false_eq_true->AB,false_and->AI,and_false->AU,true_and->AY
open Go.Proofs.Tryz renaming underlying3->A3,underlying199->A5,underlying78->A9,prog->AE,underlying72->AQ
open Go.RowKit renaming Hid->AD
open Int renaming toNat_natCast->A7,eq_ofNat_of_zero_le->A8,le_refl->AZ
open List renaming getElem?_eq_getElem->A0,getD_eq_getElem?_getD->A1,range->A2,replicate->A4,mem_of_getElem?->AA,length_cons->AC,all_eq_true->AF,take_of_length_le->AH,mem_range->AJ,count_le_length->AK,mem_replicate->AL,mem_singleton->AM,foldl_append->AN,take_add_one->AO,drop_length->AR,cons_append->AS,mem_cons->AW,map_cons->AX,count->Aa
open Nat renaming zero_add->AP
open Option renaming getD_some->AG
open Option.some renaming inj->AT
namespace Go.Proofs.YtilenknaajikpaaGreatDoor
noncomputable section
section
open Go.RowKit
namespace Aw
variable{M:Int}{m:List Int}
attribute [local irreducible] ASeq ADraw AWP Loc
def Qco(a b:Int):Int:=if b>a then b else a
def Qce:List Int->Int
 |[]=>0
 |x::l=>l.foldl Qco x
def QrE(x:Int)(l:List Int)(y:Int):Qce (x::l++[y])=Qco (Qce (x::l)) y:=by
 show(l++[y]).foldl Qco x=_;rw[AN];rfl
def Qmn(t:Int): ∀(l:List Int) (a:Int),l.foldl Qco a<=t↔a<=t/\ ∀y∈l,y<=t
 |[],a=>by simp
 |x::l,a=>by
  rw[List.foldl_cons,Qmn t l];simp only[AW,forall_eq_or_imp];unfold Qco;split<;>constructor<;>(rintro⟨h1,h2⟩;try rcases h2 with⟨h2,h3⟩)<;>first|(refine⟨by omega,by omega,?_⟩;assumption)|(refine⟨by omega,?_⟩;assumption)
def maxL_le{l:List Int}(h:l≠[])(t:Int):Qce l<=t↔ ∀y∈l,y<=t:=by
 cases l with
 |nil=>exact absurd rfl h
 |cons x l=>show l.foldl Qco x<=t↔_;rw[Qmn];simp
theorem bMax(l:List Int)(hl:0<l.length)(hb:l.length<=1000000):Pure AE 85 [dInts l] (dI (Qce l)):=by
 obtain⟨x0,l0,rfl⟩: ∃x0 l0,l=x0::l0:=by cases l with|nil=>simp at hl|cons x l=>exact⟨x,l,rfl⟩
 have h0:=Qu (f:=fun n=>[dI n]) (show(x0::l0)[0]? =some x0 from rfl)
 have hd:AD (∀(k:Nat) y,0<k->(x0::l0)[k]? =some y->Qce ((x0::l0).take (k+1))=Qco (Qce ((x0::l0).take k)) y):=Pm.hid fun k y hk hy=>by
  rw[AO,hy];obtain⟨j,rfl⟩: ∃j,k=j+1:=⟨k -1,by omega⟩;exact QrE _ _ _
 have hfin:AD (Qce ((x0::l0).take 1)=x0):=Pm.hid rfl;generalize x0::l0=l at*;clear l0;refine kB ?_
 repeat' first|refine kS ?_|refine qS (Qdc Ty.h rfl Ty.h rfl rfl rfl (by decide) h0) ?_|refine kU ?_|refine kV ?_ ?_<;>intro q|fail
 all_goals try (exfalso;simp only[decide_eq_true_eq,decide_eq_false_iff_not] at*;omega)
 refine Qs (fun m st=> ∃(k:Nat) (c:Int),0<k/\k<=l.length/\m=l.length -k+1/\AD (c=Qce (l.take k))/\
  st=⟨25,[(0,.d (dInts l)),(3,.d (dI c)),(4,.d (dI k))],[]⟩) [0,3,4] 0 l.length ⟨1,x0,by decide,by omega,by omega,Pm.hid hfin.out.symm,by simp[keepE,go_sem]⟩ (round:=?_)
 rintro m st ⟨k,c,hk0,hk,rfl,hc,rfl⟩
 repeat refine kG ?_
 cases q4:decide ((k:Int)<(l.length:Int))
 ·repeat refine kA ?_
  refine Qb (hx:=?_);have:k=l.length:=by simp at q4;omega
  subst this;rw[hc.out,List.take_length]
 have hk2:k<l.length:=by simp at q4;omega
 obtain⟨y,hy⟩: ∃y,l[k]? =some y:=⟨_,A0 hk2⟩;have hr:=Qu (f:=fun n=>[dI n]) hy;have hstep:=Pm.hid (hd.out k y hk0 hy);clear hd hy
 repeat' first|refine kS ?_|refine qS (iy hr) ?_|refine qS (Qnp rfl rfl) ?_|refine kU ?_|fail
 exact Qn (l.length -(k+1)+1) (by omega) ⟨k+1,Qco c y,by omega,by omega,rfl,Pm.hid (by rw[hstep.out,hc.out]),by simp[keepE,go_sem,Qco]⟩
def QbT(refs:List Int)(most:Int)(p:Pl.Ptr):Bool:=Pl.ptrOk p&& !Pl.ptrHole p&&decide (p.birth<=most)&& !(refs.getD p.pat.toNat 0==0)
def QaV(m:List Int)(p:Pl.Ptr):List Int:=m.set p.pat.toNat (m.getD p.pat.toNat 0+1)
def QaF(refs:List Int)(most:Int):List Pl.Ptr->List Int->Bool×List Int
 |[],m=>(true,m)
 |p::l,m=>if QbT refs most p then QaF refs most l (QaV m p) else(false,m)
def Qmz(m:List Int)(p:Pl.Ptr):(QaV m p).length=m.length:=by simp[QaV]
def QpW(h0:0<=M)(h: ∀y∈m,0<=y/\y<=M)(i:Nat):0<=m.getD i 0/\m.getD i 0<=M:=by
 rw[A1];cases hi:m[i]? with
 |none=>exact⟨AZ _,h0⟩
 |some y=>exact h y (AA hi)
def Qj3(h0:0<=M)(h: ∀y∈m,0<=y/\y<=M)(p:Pl.Ptr): ∀y∈QaV m p,0<=y/\y<=M+1:=by
 intro y hy;rcases List.mem_or_eq_of_mem_set hy with hy|rfl
 ·have:=h y hy;omega
 ·have:=QpW h0 h p.pat.toNat;omega
def QgB(refs:List Int)(most:Int): ∀(l:List Pl.Ptr) (m:List Int) (M:Int),0<=M->(∀y∈m,0<=y/\y<=M)->(QaF refs most l m).2.length=m.length/\ ∀y∈(QaF refs most l m).2,0<=y/\y<=M+l.length
 |[],m,M,h0,h=>⟨rfl,fun y hy=>by have:=h y hy;simp;omega⟩
 |p::l,m,M,h0,h=>by
  unfold QaF;split
  ·obtain⟨h1,h2⟩:=QgB refs most l (QaV m p) (M+1) (by omega) (Qj3 h0 h p)
   exact⟨h1.trans (Qmz m p),fun y hy=>by have:=h2 y hy;rw[AC];omega⟩
  ·exact⟨rfl,fun y hy=>by have:=h y hy;rw[AC];omega⟩
def Qs8{α:Type}{l:List α}{j:Nat}{x:α}(h:l[j]? =some x):l.drop j=x::l.drop (j+1):=Qhz h
theorem bCount(s:Pm.Store)(hr64:s.2.1.1.length=64)(l:List Pl.Ptr)(hl:l.length<=1000000000000)(most:Int)(m0:List Int)(hm:m0.length=64)(hb: ∀y∈m0,0<=y/\y<=1000000000000)(g:Nat):
 Does AE 86 [.d (dPtrs l),.d (dI most),.d (.pd (rSt s)),.ptr 0 0 0] [.row 0 [.osl 1 g 0 64],.arr g 1 3 (m0.map fun n=>[dI n])] [.ptr 0 0 0,.osl 1 g 0 64]
  (.d (dB (QaF s.2.1.1 most l m0).1)) [.row 0 [.osl 1 g 0 64],.arr g 1 3 ((QaF s.2.1.1 most l m0).2.map fun n=>[dI n])]:=by
 have hfl:=(QgB s.2.1.1 most l m0 1000000000000 (by decide) hb).1;have hc:AD (QaF s.2.1.1 most l m0=QaF s.2.1.1 most (l.drop 0) m0):=Pm.hid rfl;obtain⟨res,hres⟩: ∃res,res=QaF s.2.1.1 most l m0:=⟨_,rfl⟩;rw[<-hres] at hc hfl⊢;clear hres;refine kL ?hpin fun gvs=>?_
 case hpin=>
  intro i C hC
  match i,hC with
  |0,hC=>obtain rfl:=AT hC;exact⟨_,rfl,.inr ⟨rfl,0,by simp⟩⟩
  |1,hC=>obtain rfl:=AT hC;exact⟨_,rfl,rfl,rfl,.inr ⟨rfl,by simp[hfl],0,64,by simp⟩⟩
 simp only[parA,gslot,AP,Nat.reduceAdd];clear hfl
 repeat refine kA ?_
 refine Qs (fun n st=> ∃(k:Nat) (m:List Int),k<=l.length/\n=l.length -k/\m.length=64/\(∀y∈m,0<=y/\y<=1000000000000+(k:Int))/\AD (res=QaF s.2.1.1 most (l.drop k) m)/\
  st=⟨46,[(9,.d (dPtrs l)),(10,.d (dI l.length)),(11,.d (dI k)),(1,.d (dI most)),(2,.d (.pd (rSt s))),(3,.ptr 0 0 0),(1000000,.gh [.ptr 0 0 0,.osl 1 g 0 64] gvs)],[.row 0 [.osl 1 g 0 64],.arr g 1 3 (m.map fun n=>[dI n])]⟩)
  [9,10,11,1,2,3,1000000] 2 l.length ⟨0,m0,by omega,rfl,hm,fun y hy=>by have:=hb y hy;omega,hc,by simp[keepE,go_sem]⟩ (round:=?_)
 rintro n st ⟨k,m,hk,rfl,hm2,hb2,hR,rfl⟩
 repeat refine kG ?_
 cases q4:decide ((k:Int)<(l.length:Int))
 ·repeat refine kA ?_
  have:k=l.length:=by simp at q4;omega
  subst this;rw[AR] at hR;refine Qel [6,1000000] 2 (h:=?_);refine Qek (hx:=?_) (hH:=?_)<;>rw[hR.out]<;>rfl
 have hk2:k<l.length:=by simp at q4;omega
 obtain⟨x,hx⟩: ∃x,l[k]? =some x:=⟨_,A0 hk2⟩;have hr:=Qu (f:=rPtr) hx;rw[Qs8 hx] at hR;have hs1:AD (QbT s.2.1.1 most x=false->res=(false,m)):=Pm.hid fun h=>by rw[hR.out,QaF,if_neg (by rw[h];simp)]
 have hs2:AD (QbT s.2.1.1 most x=true->res=QaF s.2.1.1 most (l.drop (k+1)) (QaV m x)):=Pm.hid fun h=>by rw[hR.out,QaF,if_pos h]
 have c1:=bPtrOk x;have c2:=Qee x;have hok:AD (QbT s.2.1.1 most x=(Pl.ptrOk x&& !Pl.ptrHole x&&decide (x.birth<=most)&& !(s.2.1.1.getD x.pat.toNat 0==0))):=Pm.hid rfl
 by_cases hgood:Pl.ptrOk x=true/\Pl.ptrHole x=false/\x.birth<=most
 rotate_left
 ·have hbad:=Pm.hid (hs1.out (by
   rw[hok.out]
   by_cases a1:Pl.ptrOk x=true
   ·by_cases a2:Pl.ptrHole x=false
    ·have a3: ¬x.birth<=most:=fun a3=>hgood ⟨a1,a2,a3⟩
     simp[a3]
    ·have:Pl.ptrHole x=true:=by simpa using a2
     simp[this]
   ·have:Pl.ptrOk x=false:=by simpa using a1
    simp[this]))
  clear hs1 hs2 hok hR hx;generalize Pl.ptrOk x=okp at*;generalize Pl.ptrHole x=hop at*
  repeat' first|refine kS ?_|refine qS (iy hr) ?_|refine kU ?_|refine kV ?_ ?_<;>intro q|fail
  all_goals first
   |(exfalso;clear hbad;simp only[decide_eq_true_eq,decide_eq_false_iff_not] at*;simp_all;omega)
   |(exfalso;clear hbad;simp_all;done)
   |(refine Qel [6,1000000] 2 (h:=?_)
     refine Qek (hx:=?_) (hH:=?_)<;>rw[hbad.out]<;>done)
 obtain⟨a1,a2,a3⟩:=hgood;have hat:=QdP a1 a2;obtain⟨j,hj⟩:=A8 hat.1;have hj64:j<64:=by omega
 obtain⟨rf,hrf⟩: ∃rf,s.2.1.1[j]? =some rf:=⟨_,A0 (by omega)⟩;obtain⟨mv,hmv⟩: ∃mv,m[j]? =some mv:=⟨_,A0 (by omega)⟩;have hrr:=Qu (f:=fun n=>[dI n]) hrf;have hmr:=Qu (f:=fun n=>[dI n]) hmv;have hmb:=hb2 mv (AA hmv)
 have hok2:AD (QbT s.2.1.1 most x= !(rf==0)):=Pm.hid (by
  rw[hok.out,a1,a2,decide_eq_true a3,hj,A7,A1,hrf];rfl)
 have hbu:AD (QaV m x=m.set j (mv+1)):=Pm.hid (by unfold QaV;rw[hj,A7,A1,hmv];rfl);have hbb:=Qj3 (M:=1000000000000+(k:Int)) (by omega) hb2 x;rw[a1] at c1;rw[a2] at c2;rw[<-hj] at hrr hmr;have hmr2:(m.map fun n=>[dI n])[0+x.pat.toNat]? =some [dI mv]:=by rw[AP];exact hmr
 clear hR hok hx hrf hmv a1 a2;generalize QbT s.2.1.1 most x=ck at*;generalize QaV m x=bm at*
 repeat' first|refine kS ?_|refine qS (iy hr) ?_|refine qS (iy hrr) ?_|refine qS (Qdf Ty.h rfl rfl hmr2 rfl) ?_|refine(Qm9 Ty.h rfl rfl hmr2 rfl (kk:=?_))|refine kU ?_|refine kV ?_ ?_<;>intro q|fail
 all_goals first
  |(exfalso;simp only[decide_eq_true_eq,decide_eq_false_iff_not] at*;omega)
  |(refine Qel [6,1000000] 2 (h:=?_)
    refine Qek (hx:=?_) (hH:=?_)<;>rw[hs1.out (by rw[hok2.out];simp_all)]<;>done)
  |(refine Qn (l.length -(k+1)) (by omega) ⟨k+1,bm,by omega,rfl,by rw[hbu.out];simpa using hm2,fun y hy=>by have:=hbb y hy;omega,Pm.hid (hs2.out (by rw[hok2.out];simp_all)),?_⟩
    rw[hbu.out,List.map_set]
    simp[keepE,go_sem,hj];done)
end Aw
end
section
namespace Aw
def Qbx(refs:List Int):List (Pl.Ptr×Int)->List Int->Bool×List Int
 |[],m=>(true,m)
 |(p,top)::l,m=>if QbT refs top p then Qbx refs l (QaV m p) else(false,m)
def QsL(refs:List Int)(most:Int): ∀(l:List Pl.Ptr) (m:List Int),QaF refs most l m=Qbx refs (l.map fun p=>(p,most)) m
 |[],m=>rfl
 |p::l,m=>by unfold QaF;rw[AX,Qbx,QsL refs most l]
def Qj2(refs:List Int)(l2:List (Pl.Ptr×Int)): ∀(l1:List (Pl.Ptr×Int)) (m:List Int),Qbx refs (l1++l2) m=if(Qbx refs l1 m).1 then Qbx refs l2 (Qbx refs l1 m).2 else Qbx refs l1 m
 |[],m=>rfl
 |(p,top)::l,m=>by
  rw[AS,Qbx,Qbx];split
  ·exact Qj2 refs l2 l _
  ·rfl
theorem Qqi(m:List Int)(p:Pl.Ptr)(i:Nat):m.getD i 0<=(QaV m p).getD i 0:=by
 unfold QaV
 grind
theorem Qmv(refs:List Int)(i:Nat): ∀(l:List (Pl.Ptr×Int)) (m:List Int),m.getD i 0<=(Qbx refs l m).2.getD i 0
 |[],m=>AZ _
 |(p,top)::l,m=>by
  unfold Qbx;split
  ·exact Int.le_trans (Qqi m p i) (Qmv refs i l _)
  grind
theorem Ql7{refs:List Int}: ∀(l:List (Pl.Ptr×Int)) (m:List Int),m.length=64->(∀i,i<64->0<=m.getD i 0/\m.getD i 0<=refs.getD i 0)->
 Qb0 refs l m=((Qbx refs l m).1&&(A2 64).all fun i=>decide ((Qbx refs l m).2.getD i 0<=refs.getD i 0))
 |[],m,_,h=>by
  unfold Qb0 Qbx
  grind
 |(p,top)::l,m,hm,h=>by
  unfold Qb0 Qbx;cases hc:QbT refs top p
  ·simp only[AB,if_false,AI]
   unfold QbT at hc
   grind
  ·simp only[if_true]
   unfold QbT at hc;simp only[A6,Bool.not_eq_true'] at hc;obtain⟨⟨⟨h1,h2⟩,h3⟩,h4⟩:=hc;have hp:=QdP h1 h2;have hb:=h p.pat.toNat (by omega);have hlt:p.pat.toNat<m.length:=by omega
   rw[h1,h2,h3];simp only[Bool.not_false,AY]
   by_cases hle:m.getD p.pat.toNat 0+1<=refs.getD p.pat.toNat 0
   ·rw[decide_eq_true hle,AY]
    refine Ql7 l (QaV m p) ((Qmz m p).trans hm) fun i hi=>?_
    have:=h i hi;unfold QaV
    grind
   ·rw[decide_eq_false hle,AI]
    have hbad:((A2 64).all fun i=>decide ((Qbx refs l (QaV m p)).2.getD i 0<=refs.getD i 0))=false:=by
     rw[List.all_eq_false];refine⟨p.pat.toNat,AJ.2 (by omega),?_⟩;have h5:=Qmv refs p.pat.toNat l (QaV m p);have h6:(QaV m p).getD p.pat.toNat 0=m.getD p.pat.toNat 0+1:=by unfold QaV;grind
     grind
    grind
def QcG(s:Pm.Store):Bool:=
 (QaF s.2.1.1 (s.2.2.1 -1) s.2.2.2.1 (A4 64 0)).1&&(QaF s.2.1.1 s.2.2.2.2.1 s.2.2.2.2.2.1 (QaF s.2.1.1 (s.2.2.1 -1) s.2.2.2.1 (A4 64 0)).2).1&&
   (A2 64).all fun i=>decide ((QaF s.2.1.1 s.2.2.2.2.1 s.2.2.2.2.2.1 (QaF s.2.1.1 (s.2.2.1 -1) s.2.2.2.1 (A4 64 0)).2).2.getD i 0<=s.2.1.1.getD i 0)
theorem QpC{s:Pm.Store}(h: ∀i,i<64->0<=s.2.1.1.getD i 0):Qb0 s.2.1.1 (Qbr s) (A4 64 0)=QcG s:=by
 have hz: ∀i,i<64->(A4 64 (0:Int)).getD i 0=0:=fun i hi=>by
  grind
 rw[Ql7 _ _ (by simp) fun i hi=>by grind];unfold Qbr QcG;rw[Qj2,<-QsL,<-QsL]
 grind
theorem Qpx{s:Pm.Space}(h:Pl.spaceOk s=true): ∀i,i<64->0<=s.1.getD i 0:=by
 intro i hi;unfold Pl.spaceOk at h;simp only[A6,AF] at h;have:=h.2 i (AJ.2 hi);unfold Pl.Qec Pl.QdO at this;simp only[A6] at this;have:=this.1.1.2;simp[Pl.inR] at this
 grind
end Aw
end
section
open Go.RowKit
namespace Aw
variable{nm es t:List Nat}{x:List (List UInt8)}
attribute [local irreducible] ASeq ADraw AWP Loc
def Qb7(refs:List Int)(i:Nat)(r:List UInt8):Bool:=decide (r.length<=128)&&((r==[])==(refs.getD i 0==0))
def Qpz{s:Pm.Store}(h:s.2.1.2.length=64):QbW s=(((A2 64).all fun i=>Qb7 s.2.1.1 i (s.1.getD i []))&&decide (Qce s.2.1.2<=s.2.2.1)):=by
 have hne:s.2.1.2≠[]:=fun e=>by rw[e] at h;cases h
 rw[Bool.eq_iff_iff];unfold QbW Qbv Qb7;simp only[A6,AF,decide_eq_true_eq,AJ];rw[maxL_le hne];constructor
 ·intro hh
  refine⟨fun i hi=>(hh i hi).1,fun y hy=>?_⟩;obtain⟨i,hi,rfl⟩:=List.getElem_of_mem hy;have:=(hh i (by omega)).2
  rwa [A1,A0 hi] at this
 ·rintro⟨h1,h2⟩ i hi
  refine⟨h1 i hi,?_⟩;rw[A1,A0 (by omega)];exact h2 _ (List.getElem_mem _)
theorem Qll(s:Pm.Store)(b1:s.2.1.1.length<=Pm.big)(b2:s.2.1.2.length<=Pm.big)(b3:s.2.2.2.1.length<=1000000000000)(b4:s.2.2.2.2.2.1.length<=1000000000000):
 Pure AE 42 [dSt s] (dB (QO s)):=by
 have hd:AD (QO s=((s.1.length==64)&&Pl.spaceOk s.2.1&&Pl.inR s.2.2.1 1 900&&Pl.inR s.2.2.2.2.1 0 (s.2.2.1 -1)&&QbW s&&Qb0 s.2.1.1 (Qbr s) (A4 64 0))):=Pm.hid rfl;have cS:=Quz s.2.1 b1 b2;have cT:=bIn s.2.2.1 1 900;have cQp:=bIn s.2.2.2.2.1 0 (s.2.2.1 -1)
 by_cases hlen:s.1.length=64
 rotate_left
 ·have hf:QO s=false:=by rw[hd.out,beq_eq_false_iff_ne.2 hlen];rfl
  refine kE ?_;refine Qa 0 (h:=?_);have hne:((s.1.length:Int) !=64)=true:=by rw[bne_iff_ne];omega
  repeat' first|refine kA ?_|refine kV ?_ ?_<;>intro q|fail
  all_goals first|refine Qb (hx:=?_);rw[hf]|exfalso;simp_all;done
 have hne:((s.1.length:Int) !=64)=false:=by rw[hlen];rfl
 cases hsp:Pl.spaceOk s.2.1
 ·have hf:QO s=false:=by rw[hd.out,hsp];simp
  rw[hsp] at cS;refine kE ?_;refine Qa 0 (h:=?_)
  repeat' first|refine kA ?_|refine kV ?_ ?_<;>intro q|fail
  all_goals first|refine Qb (hx:=?_);rw[hf]|exfalso;simp_all;done
 cases hT:Pl.inR s.2.2.1 1 900
 ·have hf:QO s=false:=by rw[hd.out,hT];simp
  rw[hT] at cT;rw[hsp] at cS;refine kE ?_;refine Qa 0 (h:=?_)
  repeat' first|refine kA ?_|refine kV ?_ ?_<;>intro q|fail
  all_goals first|refine Qb (hx:=?_);rw[hf]|exfalso;simp_all;done
 have hTb:1<=s.2.2.1/\s.2.2.1<=900:=by simpa[Pl.inR] using hT
 cases hK:Pl.inR s.2.2.2.2.1 0 (s.2.2.1 -1)
 ·have hf:QO s=false:=by rw[hd.out,hK];simp
  rw[hT] at cT;rw[hsp] at cS;rw[hK] at cQp;refine kE ?_;refine Qa 0 (h:=?_)
  repeat' first|refine kA ?_|refine kV ?_ ?_<;>intro q|fail
  all_goals first|refine Qb (hx:=?_);rw[hf]|exfalso;simp_all;done
 have hsp1:s.2.1.1.length=64/\s.2.1.2.length=64:=by simp[Pl.spaceOk] at hsp;exact hsp.1
 have cM:=bMax s.2.1.2 (by omega) (by omega)
 have hd2:AD (QO s=(((A2 64).all fun i=>Qb7 s.2.1.1 i (s.1.getD i []))&&decide (Qce s.2.1.2<=s.2.2.1)&&QcG s)):=Pm.hid (by
  rw[hd.out,hlen,hsp,hT,hK,Qpz hsp1.2,QpC (Qpx hsp)];rfl)
 rw[hT] at cT;rw[hsp] at cS;rw[hK] at cQp;clear hd hsp hT hK;have hrow:AD (∀k,Qb7 s.2.1.1 k (s.1.getD k [])=(decide ((s.1.getD k []).length<=128)&&((s.1.getD k []==[])==(s.2.1.1.getD k 0==0)))):=Pm.hid fun k=>rfl
 have hrf:AD (∀k,k<64->Qb7 s.2.1.1 k (s.1.getD k [])=false->QO s=false):=Pm.hid fun k hk h=>by
  rw[hd2.out,Pl.Qdj hk h];rfl
 have how:AD (QcG s=((QaF s.2.1.1 (s.2.2.1 -1) s.2.2.2.1 (A4 64 0)).1&&(QaF s.2.1.1 s.2.2.2.2.1 s.2.2.2.2.2.1 (QaF s.2.1.1 (s.2.2.1 -1) s.2.2.2.1 (A4 64 0)).2).1&&
  (A2 64).all fun i=>decide ((QaF s.2.1.1 s.2.2.2.2.1 s.2.2.2.2.2.1 (QaF s.2.1.1 (s.2.2.1 -1) s.2.2.2.1 (A4 64 0)).2).2.getD i 0<=s.2.1.1.getD i 0))):=Pm.hid rfl
 have fa1:=QgB s.2.1.1 (s.2.2.1 -1) s.2.2.2.1 (A4 64 0) 0 (by decide) (fun y hy=>by rw[(AL.1 hy).2];decide);have dd1:=bCount s hsp1.1 s.2.2.2.1 b3 (s.2.2.1 -1) (A4 64 0) (by simp) (fun y hy=>by rw[(AL.1 hy).2];decide) 0;generalize QaF s.2.1.1 (s.2.2.1 -1) s.2.2.2.1 (A4 64 0)=r1 at*;obtain⟨o1,m1⟩:=r1;simp only at fa1 how;have fa2:=QgB s.2.1.1 s.2.2.2.2.1 s.2.2.2.2.2.1 m1 1000000000000 (by decide) (fun y hy=>by have:=fa1.2 y hy;omega);have dd2:=bCount s hsp1.1 s.2.2.2.2.2.1 b4 s.2.2.2.2.1 m1 (by simpa using fa1.1) (fun y hy=>by have:=fa1.2 y hy;omega) 0;generalize QaF s.2.1.1 s.2.2.2.2.1 s.2.2.2.2.2.1 m1=r2 at*;obtain⟨o2,m2⟩:=r2;simp only at fa2 how;generalize Qce s.2.1.2=mx at*;generalize hst:QO s=res at*;clear hst b1 b2;refine kE ?_;refine Qa 0 (h:=?_)
 repeat' first|refine kA ?_|refine kV ?_ ?_<;>intro q|fail
 all_goals first
  |(exfalso;clear hrow how hrf hd2 dd1 dd2;simp_all;done)
  |(refine Qb (hx:=?_)
    rw[hd2.out,decide_eq_false (by clear hrow how hrf hd2 dd1 dd2;simp at*;omega),AU,AI];done)
  |skip
 have hmx:decide (mx<=s.2.2.1)=true:=decide_eq_true (by clear hrow how hrf hd2 dd1 dd2;simp at*;omega)
 refine Qs (fun m st=> ∃k:Nat,k<=64/\m=64 -k/\AD ((A2 k).all (fun i=>Qb7 s.2.1.1 i (s.1.getD i []))=true)/\
  st=⟨102,[(1,.d (.pd (rSt s))),(44,.d (dStrs s.1)),(45,.d (dI s.1.length)),(46,.d (dI k))],[]⟩) [1,44,45,46] 0 64 ⟨0,by omega,rfl,Pm.hid rfl,by simp[keepE,go_sem]⟩ (round:=?_)
 rintro m st ⟨k,hk,rfl,hA,rfl⟩
 repeat refine kG ?_
 cases q3:decide ((k:Int)<(s.1.length:Int));rotate_left
 ·have hk2:k<64:=by simp at q3;omega
  obtain⟨r,hr0⟩: ∃r,s.1[k]? =some r:=⟨_,A0 (by omega)⟩;obtain⟨rf,hf0⟩: ∃rf,s.2.1.1[k]? =some rf:=⟨_,A0 (by omega)⟩;have hr:=Qu (f:=fun s=>[dS s]) hr0;have hf:=Qu (f:=fun n=>[dI n]) hf0;have hbad:=Pm.hid (hrf.out k hk2);have hgood:AD (Qb7 s.2.1.1 k (s.1.getD k [])=true->(A2 (k+1)).all (fun i=>Qb7 s.2.1.1 i (s.1.getD i []))=true):=Pm.hid fun h=>Pl.Qdn hA.out h
  have hro:AD (Qb7 s.2.1.1 k (s.1.getD k [])=(!decide ((r.length:Int)>128)&&((r==[])==(rf==0)))):=Pm.hid (by
   rw[hrow.out k];simp only[A1,hr0,hf0,AG]
   have:decide (r.length<=128)= !decide ((r.length:Int)>128):=by
    by_cases h:r.length<=128
    ·rw[decide_eq_true h,decide_eq_false (by omega)];rfl
    ·rw[decide_eq_false h,decide_eq_true (by omega)];rfl
   rw[this])
  clear hrow how hrf hd2 dd1 dd2 hr0 hf0 hA fa1 fa2;generalize Qb7 s.2.1.1 k (s.1.getD k [])=ro at*
  repeat' first|refine kS ?_|refine qS (iy hr) ?_|refine qS (iy hf) ?_|refine qS (QeV Tryz.underlying4 rfl rfl) ?_|refine kU ?_|refine kV ?_ ?_<;>intro q|fail
  all_goals clear hr hf
  all_goals first
   |(exfalso;omega)
   |(refine Qb (hx:=?_)
     rw[hbad.out (by rw[hro.out];clear hbad hgood hro;simp_all)];done)
   |exact Qn (64 -(k+1)) (by omega) ⟨k+1,by omega,rfl,Pm.hid (hgood.out (by rw[hro.out];clear hbad hgood hro;simp_all)),by simp[keepE,go_sem]⟩
 have hk64:k=64:=by simp at q3;omega
 subst hk64
 have hd3:AD (res=QcG s):=Pm.hid (by
  rw[hd2.out,hA.out,hmx];rfl)
 clear hrow hrf hd2 hA;simp only[List.map_replicate] at dd1;simp only at dd1 dd2
 have hgl1: ∀(L:List AV) (B:Blk) (g:AV),g∈[AV.ptr 0 0 0,AV.osl 1 0 0 64]->AV.ptr 1 0 0∈L->B.parts=[]->g.ren (rho [1,0] 2)∈L++[B,Blk.row 0 [.osl 0 0 0 64]].flatMap Blk.parts:=fun L B g hg hL hB=>by
  simp only[AW,List.not_mem_nil,or_false] at hg;rcases hg with rfl|rfl
  ·exact List.mem_append_left _ hL
  ·refine List.mem_append_right _ ?_
   rw[List.flatMap_cons,hB];simp[Blk.parts,AV.parts,AV.ren,rho]
 repeat' first|refine kS ?_|refine qS (QkN rfl rfl) ?_|refine(QfA [1,0] dd1 cK (hgl:=fun g hg=>hgl1 _ _ g hg (by simp[AV.parts,go_sem]) rfl) (k:=?_))|refine(QfA [1,0] dd2 cK (hgl:=fun g hg=>hgl1 _ _ g hg (by simp[AV.parts,go_sem]) rfl) (k:=?_))|refine kU ?_|refine kV ?_ ?_<;>intro q|fail
 ·refine Qb (hx:=?_)
  rw[hd3.out,how.out,(by simpa using q:o1=false)];rfl
 ·refine Qb (hx:=?_)
  rw[hd3.out,how.out,(by simpa using q:o2=false),AU];rfl
 have hm2:m2.length=64:=by rw[fa2.1,fa1.1];simp
 have hd4:AD (res=(A2 64).all fun i=>decide (m2.getD i 0<=s.2.1.1.getD i 0)):=Pm.hid (by
  rw[hd3.out,how.out];clear hd3 how dd1 dd2
  simp_all)
 clear hd3 how dd1 dd2 fa1 fa2 cS cT cQp cM
 refine Qs (fun m st=> ∃k:Nat,k<=64/\m=64 -k/\AD ((A2 k).all (fun i=>decide (m2.getD i 0<=s.2.1.1.getD i 0))=true)/\
  st=⟨102,[(1,.d (.pd (rSt s))),(86,.osl 0 0 0 64),(87,.d (dI 64)),(88,.d (dI k))],[.arr 0 1 3 (m2.map fun n=>[dI n])]⟩) [1,86,87,88] 1 64 ⟨0,by omega,rfl,Pm.hid rfl,by simp[keepE,go_sem]⟩ (round:=?_)
 rintro m st ⟨k,hk,rfl,hA,rfl⟩
 repeat refine kG ?_
 cases q5:decide ((k:Int)<64)
 ·repeat refine kA ?_
  refine Qb (hx:=?_);have:k=64:=by simp at q5;omega
  subst this;rw[hd4.out,hA.out]
 have hk2:k<64:=by simp at q5;omega
 obtain⟨mv,hmv⟩: ∃mv,m2[k]? =some mv:=⟨_,A0 (by omega)⟩;obtain⟨rf,hf0⟩: ∃rf,s.2.1.1[k]? =some rf:=⟨_,A0 (by omega)⟩;have hmr:=Qu (f:=fun n=>[dI n]) hmv;have hf:=Qu (f:=fun n=>[dI n]) hf0;have hmr2:(m2.map fun n=>[dI n])[0+((k:Nat):Int).toNat]? =some [dI mv]:=by rw[AP];exact hmr
 have hbad:AD (decide (mv>rf)=true->res=false):=Pm.hid fun h=>by
  rw[hd4.out];refine Pl.Qdj hk2 ?_;simp only[A1,hmv,hf0,AG];exact decide_eq_false (by simp at h;omega)
 have hgood:AD (decide (mv>rf)=false->(A2 (k+1)).all (fun i=>decide (m2.getD i 0<=s.2.1.1.getD i 0))=true):=Pm.hid fun h=>Pl.Qdn hA.out (by
  simp only[A1,hmv,hf0,AG]
  exact decide_eq_true (by simp at h;omega))
 clear hd4 hA hmv hf0
 repeat' first|refine kS ?_|refine qS (Qdf Ty.h rfl rfl hmr2 rfl) ?_|refine qS (iy hf) ?_|refine kU ?_|refine kV ?_ ?_<;>intro q|fail
 all_goals first
  |(refine Qb (hx:=?_)
    rw[hbad.out (by assumption)];done)
  |exact Qn (64 -(k+1)) (by omega) ⟨k+1,by omega,rfl,Pm.hid (hgood.out (by assumption)),by simp[keepE,go_sem]⟩
def QpV{l:List Pl.Ptr}{i:Nat}{x:Pl.Ptr}(h:l[i]? =some x)(w:Pl.Sto):w.freeL (l.take (i+1))=(w.freeL (l.take i)).free x:=by
 rw[AO,h];unfold Pl.Sto.freeL;rw[AN];rfl
attribute [local irreducible] AStep Fg.PlanF Fg.Flts EndR Fk.PlanF Fk.Flts Fk.AStepM Fk.Grew Fk.Gs
def eDrop11(g:Nat)(w:Pl.Sto)(N:Nat)(hN:N<=700000)(hw:w.W N)(t:Pl.Tree)(ht:Qx t)(k:Nat)(hk:k<16)(hnt:Qx (Q4 w.st t k).1.tree)(hsub:Qcb w.st (Q4 w.st t k).1.tree.depth.toNat (Q4 w.st t k).1.tree.root)(hlo: ∀p∈QP w.st (Q4 w.st t k).1.tree,Pl.ptrOk p=true):
 DoesE AE 190 [oS g w,.d (dTree t),.d (dI k)] (hS g w) (gS g w) (fun x H=>x= .tup [oS (g+1) (Qa7 w t k (QP w.st (Q4 w.st t k).1.tree) (Qas (Qc w.st t) k)).1,.d (dTree (Qa7 w t k (QP w.st (Q4 w.st t k).1.tree) (Qas (Qc w.st t) k)).2.1),.d (dB (Qa7 w t k (QP w.st (Q4 w.st t k).1.tree) (Qas (Qc w.st t) k)).2.2)]/\H=hS (g+1) (Qa7 w t k (QP w.st (Q4 w.st t k).1.tree) (Qas (Qc w.st t) k)).1):=by
 refine DoesE.tag (X:=fun g'=> .tup [oS g' (Qa7 w t k (QP w.st (Q4 w.st t k).1.tree) (Qas (Qc w.st t) k)).1,.d (dTree (Qa7 w t k (QP w.st (Q4 w.st t k).1.tree) (Qas (Qc w.st t) k)).2.1),.d (dB (Qa7 w t k (QP w.st (Q4 w.st t k).1.tree) (Qas (Qc w.st t) k)).2.2)]) (C:=fun _=>True) ?_ Qgz;have hgood:=hw.good;have c1:=al11Get w.st hgood t ht k;have c2:=QuK w.st hgood t ht k;have c3:=dAll w.st hgood (Q4 w.st t k).1.tree hnt hsub;have hal:=Qfh (s:=w.st) hnt.hi;have hml:Qas (Qc w.st t) k<=16:=Nat.le_trans (Qhp _ _) (by rw[texts_len _ ht];have:=ht.manyHi;omega);have hd: ∀l m,AD (Qa7 w t k l m=if(Qp (w.freeL l) t k []).2.2 then QJ (Qp (w.freeL l) t k []).1 (Qp (w.freeL l) t k []).2.1 m else Qp (w.freeL l) t k []):=fun l m=>Pm.hid rfl
 replace hd:=hd (QP w.st (Q4 w.st t k).1.tree) (Qas (Qc w.st t) k)
 generalize Qas (Qc w.st t) k=many at*;generalize QP w.st (Q4 w.st t k).1.tree=l at*;generalize Q4 w.st t k=nd at*;obtain⟨n,ok0⟩:=nd;simp only at c1 c3;generalize Qa7 w t k l many=res at*
 have hfl:[Blk.arr l.length 5 31 (l.map rPtr)].all Blk.flat=true:=by
  simp[Blk.flat];intro x _;exact⟨rfl,rfl,rfl,rfl,rfl⟩
 have hT:(l.map rPtr).take l.length=l.map rPtr:=AH (by simp);clear hnt hsub;refine kH fun gvs=>?_
 repeat' first|refine kS ?_|refine qS (Qdh cK c1 hw) ?_|refine qS (Qdh cK c2 hw) ?_|refine(QdY (ds:=[dTree n.tree]) c3 cK hw rfl hfl (k:=?_))|refine kU ?_|fail
 refine Qa 10 (C:= .arr l.length 5 31 (l.map rPtr)) (h:=?_);rw[hT]
 refine Qs (fun m st=> ∃(i g':Nat) (wi:Pl.Sto),i<=l.length/\m=l.length -i/\AD (wi=w.freeL (l.take i))/\AD (wi.W (N+i))/\(g<g'∨g'=g/\wi.gone.length=w.gone.length)/\
  st=⟨61,[(13,.d (dI i)),(12,.d (tPtrs l)),(11,.d (dI many)),(2,.d (dI k)),(3,.ptr 5 0 0),(4,.ptr 6 0 0),(6,.ptr 7 0 0),(7,.ptr 8 0 0),(1000000,.gh (gS g w) gvs)],
   hS g' wi++[.row 0 (rowS g' wi),.row 0 (rowT t),.row 0 zSt,.row 0 zTr]⟩) [13,12,11,2,3,4,6,7,1000000] 9 l.length
  ⟨0,g,w,by omega,rfl,Pm.hid rfl,Pm.hid hw,.inr ⟨rfl,rfl⟩,rfl⟩ (round:=?_)
 rintro m st ⟨i,g',wi,hi,rfl,hF,hG,hg,rfl⟩;have hW:=hG.out;simp only[hS,AS,List.nil_append]
 repeat refine kG ?_
 cases q:decide ((i:Int)<(l.length:Int))
 ·have hil:i=l.length:=by simp at q;omega
  have hF2:=hF.out;rw[hil,AH (Nat.le_refl _)] at hF2;rw[<-hF2] at hd;have cP:=(ePut g' wi (N+i) (by omega) hW t ht k hk [] (by simp)).tag3;have hWc:=Qfo hW ht (k:=k) hk [];have hsg:=Qex (w:=wi) (t:=t) (k:=k) (text:=[]);generalize Qp wi t k []=y at*;obtain⟨w2,t2,ok2⟩:=y;simp only at cP hWc hsg hd;have v0:w2.rows.length=w.rows.length:=by rw[hWc.1.rows,hw.rows]
  have v1:w2.refs.length=w.refs.length:=by rw[hWc.1.refs,hw.refs]
  have v2:w2.last.length=w.last.length:=by rw[hWc.1.last,hw.last]
  clear hF hF2 hG c1 c2 c3 hfl;cases ok2
  ·simp only[AB,if_false] at cP hd
   have v3:w2.gone.length=wi.gone.length:=by rw[(hsg rfl).1]
   clear hsg
   repeat' first|refine kS ?_|refine QD [0,1,2,3,4] cP cK (k:=kX ?_)|(show AWP _ (.region 10 _ _) _ _;refine(Qa 6 (h:=Fg.awp_drawF (id:=10) [1] [2,3] ?_)))|refine kU ?_|fail
   all_goals first|(rcases hg with hg|⟨rfl,hg⟩<;>(refine QN 5 (hx:=?_);rw[hd.out];exact⟨_,trivial,rfl,rfl⟩))
  ·simp only[if_true] at cP hd
   clear hsg;have c4:=pinS (X:=fun g2=> .tup [oS g2 (QJ w2 t2 many).1,.d (dTree (QJ w2 t2 many).2.1),.d (dB (QJ w2 t2 many).2.2)]) (C:=fun g2=>(QJ w2 t2 many).2.2=false->g2=g'+1) (eCut (g'+1) w2 (N+i+15) (by omega) hWc.1 t2 hWc.2 many hml);have hWd:=(cut_W hWc.1 hWc.2 (many:=many) hml).1;generalize QJ w2 t2 many=z at*;obtain⟨w3,t3,ok3⟩:=z;simp only at c4 hWd hd;have u0:w3.rows.length=w.rows.length:=by rw[hWd.rows,hw.rows]
   have u1:w3.refs.length=w.refs.length:=by rw[hWd.refs,hw.refs]
   have u2:w3.last.length=w.last.length:=by rw[hWd.last,hw.last]
   repeat' first|refine kS ?_|refine QD [0,1,2,3,4] cP cK (k:=kX ?_)|(refine QD [0,1,2,3,4] c4 cK (k:=?_);rintro _ _ ⟨g3,hg3,hC,rfl,rfl⟩;refine QdF (k:=?_))|refine kU ?_|fail
   all_goals first
    |(have hg4:g<g3:=by
       rcases hg with h1|⟨h1,h2⟩<;>rcases hg3 with h3|⟨h3,h4⟩<;>omega
      refine QN 5 (hx:=?_);rw[hd.out];exact⟨_,trivial,rfl,rfl⟩)
 have hil:i<l.length:=by simp at q;omega
 obtain⟨x,hx⟩: ∃x,l[i]? =some x:=⟨_,A0 hil⟩;have hr:=Qu (f:=rPtr) hx;have hxo:=hlo x (AA hx);have cf:=eFree2 g' wi (N+i) (by omega) hW x hxo;have hWf:=(hW.free hxo).le (M:=N+(i+1)) (by omega);have hst:AD (wi.free x=w.freeL (l.take (i+1))):=Pm.hid (by rw[QpV hx,hF.out]);clear hx hF hG c1 c2 c3 hd;generalize wi.free x=wf at*
 repeat' first|refine kS ?_|refine qD (iy hr) ?_|(show AWP _ (.region 7 _ _) _ _;refine(Fg.awp_drawF (id:=7) [] [5,6] ?_))|(refine Qfb [0,1,2,3,4] cf cK (k:=?_);rintro _ _ ⟨g4,hg4,rfl,rfl⟩;refine Qlv (k:=?_))|refine kU ?_|fail
 all_goals first|refine Qn (l.length -(i+1)) (by omega) ⟨i+1,g4,wf,by omega,rfl,hst,Pm.hid hWf,(by rcases hg with h1|⟨h1,h2⟩<;>rcases hg4 with h3|⟨h3,h4⟩<;>first|(left;omega)|(right;exact⟨by omega,by omega⟩)),?_⟩;simp[keepE,go_sem];done
def QcO(mp:List (Int×D))(nm:List Nat):Prop:= ∀k:Nat,(mget mp (k:Int)).getD (.v (.int .i64 0))= .v (.int .i64 (nm.count k:Nat))
def QtM:QcO [] []:=fun k=>by simp[mget]
theorem Qr7{mp:List (Int×D)}(h:QcO mp nm)(e:Nat):QcO (mset mp (e:Int) (.v (.int .i64 ((nm.count e:Int)+1)))) (nm++[e]):=fun k=>by
 by_cases hk:e=k
 ·subst hk
  rw[Qe7]
  grind
 ·rw[Qgg (by omega),h k]
  grind
abbrev Qm(x:List (List UInt8)):List Qi:=x.map fun y=>(Qq y).1
def Qcl(x:List (List UInt8)):Prop:= ∀y∈x,y=[]∨NodeB (Qq y).1
def QeS(k:Nat):(Qm x).getD k Qd=(Qq (x.getD k [])).1:=by
 rw[A1,A1,List.getElem?_map];cases x[k]? with
 |none=>simp[QkI]
 |some y=>rfl
theorem Qe8(h:Qcl x)(k:Nat):x.getD k []=[]/\(Qm x).getD k Qd=Qd∨x.getD k []≠[]/\k<x.length/\NodeB ((Qm x).getD k Qd):=by
 rw[QeS]
 by_cases hy:x.getD k []=[]
 ·exact .inl ⟨hy,by rw[hy,QkI]⟩
 ·refine .inr ⟨hy,?_,?_⟩
  ·grind
  ·rcases h (x.getD k []) (by
    grind) with h|h
   ·grind
   ·exact h
theorem Qhq(h:Qcl x)(k:Nat):Qo (Qm x) k=0↔x.getD k []=[]:=by
 unfold Qo;rcases Qe8 h k with⟨h1,h2⟩|⟨h1,_,h2⟩
 ·rw[h2];exact⟨fun _=>h1,fun _=>rfl⟩
 ·have:=h2.kind
  grind
theorem Qpb(h:Qcl x)(k:Nat):Qcv x (k:Int)=if Qo (Qm x) k=0 then(Qd,false) else((Qm x).getD k Qd,true):=by
 unfold Qcv;rw[A7]
 by_cases hk:Qo (Qm x) k=0
 ·rw[if_pos hk,(Qhq h k).1 hk];simp
 ·rw[if_neg hk]
  have hy:=fun e=>hk ((Qhq h k).2 e)
  rcases Qe8 h k with⟨h1,_⟩|⟨_,h2,_⟩
  ·grind
  ·rw[if_pos,QeS]
   rw[A6];refine⟨by simp[Pl.inR];omega,by grind⟩
def Qcp(kind:Nat->Nat)(ch:Nat->Option (List Nat))(links:Nat->Nat)(n:Nat):Bool:=
 match Gr.bfs kind ch (1+Gr.left kind n []) [0] [] with
 |none=>false
 |some nm=>(A2 n).all fun k=>decide (k=0)||decide (kind k=0)||decide (nm.count k=links k)
theorem QtU(kind:Nat->Nat)(n:Nat)(nm:List Nat):Gr.left kind n nm<=n:=by
 unfold Gr.left
 grind
theorem QpU{kind:Nat->Nat}{e:Nat}(h:kind e=0):Gr.inner kind (e::es) t nm=none:=by
 unfold Gr.inner;grind
theorem QpS{kind:Nat->Nat}{e:Nat}(h:kind e=1):Gr.inner kind (e::es) t nm=Gr.inner kind es t (nm++[e]):=by
 conv=>lhs;unfold Gr.inner
 grind
theorem QpT{kind:Nat->Nat}{e:Nat}(h:kind e=2)(hc:0<nm.count e):Gr.inner kind (e::es) t nm=none:=by
 unfold Gr.inner;grind
theorem QrW{kind:Nat->Nat}{e:Nat}(h:kind e=2)(hc:nm.count e=0):Gr.inner kind (e::es) t nm=Gr.inner kind es (t++[e]) (nm++[e]):=by
 conv=>lhs;unfold Gr.inner
 grind
attribute [local irreducible] mget mset
def bLinked(s:Pm.Store)(t:Pl.Tree)(x:List (List UInt8))(hx16:x.length<=16)(hx:Qcl x)(m:List (Int×D))(L:Int->List Ql)(hm:QbV m L)(ch:Nat->Option (List Nat))(hch: ∀k:Nat,(ch k).getD []=(L k).map fun e=>e.2.toNat):
 Pure AE 92 [.pd (rFiles s t x m)] (dB (Qcp (Qo (Qm x)) ch (Qa4 (Qm x)) x.length)):=by
 have hlk: ∀k,Qo (Qm x) k=2->k<x.length:=fun k hk=>by
  have:=Qd9 (ns:=Qm x) (k:=k) (by omega);rwa [List.length_map] at this
 obtain⟨kind,hkind⟩: ∃kind,kind=Qo (Qm x):=⟨_,rfl⟩;obtain⟨res,hres⟩: ∃res,res=Qcp kind ch (Qa4 (Qm x)) x.length:=⟨_,rfl⟩;rw[<-hkind] at hlk⊢;rw[<-hres];have hB0:AD (Gr.bfs kind ch (1+Gr.left kind x.length []) [0] []=none->res=false):=Pm.hid fun h=>by rw[hres,Qcp,h]
 have hB1:AD (∀nm,Gr.bfs kind ch (1+Gr.left kind x.length []) [0] []=some nm->res=(A2 x.length).all fun k=>decide (k=0)||decide (kind k=0)||decide (nm.count k=Qa4 (Qm x) k)):=Pm.hid fun nm h=>by rw[hres,Qcp,h]
 clear hres;have hll:=QtU kind x.length [];obtain⟨F0,hF0⟩: ∃F0,F0=1+Gr.left kind x.length []:=⟨_,rfl⟩;have hF17:F0<=17:=by omega
 rw[<-hF0] at hB0 hB1;have hhk:=Pm.hid hkind
 replace hlk:=Pm.hid hlk
 replace hF0:=Pm.hid hF0
 refine kB ?_
 repeat' first|refine kS ?_|refine stepS2 (Qez) (k:=?_)|refine kU ?_|fail
 refine Qs (fun mm st=> ∃(g:Nat) (pre todo nm:List Nat) (mp:List (Int×D)),AD (Gr.bfs kind ch F0 [0] []=Gr.bfs kind ch mm todo nm)/\AD (todo.length+Gr.left kind x.length nm<=mm)/\AD (nm.length+12*mm<=12*F0)/\AD (QcO mp nm)/\
  (todo≠[]/\st=⟨89,[(0,.d (.pd (rFiles s t x m))),(3,.mp 0 0),(4,.osl 1 g pre.length todo.length)],[.mp 0 (imap mp),.arr g 1 3 ((pre++todo).map fun n=>[dI (n:Nat)])]⟩∨
   todo=[]/\st=⟨89,[(0,.d (.pd (rFiles s t x m))),(3,.mp 0 0),(4,.d (.sl false 1 []))],[.mp 0 (imap mp),.arr g 1 3 (pre.map fun n=>[dI (n:Nat)])]⟩)) [0,3,4] 2 F0
  ⟨0,[],[0],[],[],Pm.hid rfl,Pm.hid (by rw[hF0.out];simp),Pm.hid (by simp),Pm.hid QtM,.inl ⟨by simp,by simp[keepE,go_sem,imap]⟩⟩ (round:=?_)
 rintro mm st ⟨g,pre,todo,nm,mp,hR,hlf,hnl,hN,hst⟩;rcases hst with⟨hne,rfl⟩|⟨rfl,rfl⟩;rotate_left
 ·have hn2:Gr.bfs kind ch F0 [0] []=some nm:=by rw[hR.out];unfold Gr.bfs;rfl
  have hr1:=Pm.hid (hB1.out nm hn2);clear hB0 hB1 hR hlf hn2 hm hch hlk hF0;have hcb: ∀k,(nm.count k:Nat)<=nm.length:=fun k=>AK
  repeat' first|refine kS ?_|refine qS (Qdq rfl) ?_|refine kU ?_|fail
  refine Qs (fun mm st=> ∃k,k<=x.length/\mm=x.length -k/\AD ((A2 k).all (fun k=>decide (k=0)||decide (kind k=0)||decide (nm.count k=Qa4 (Qm x) k))=true)/\
   st=⟨89,[(65,.d (tNds x)),(66,.d (dI x.length)),(67,.d (dI k)),(3,.mp 0 0)],[.mp 0 (imap mp)]⟩) [65,66,67,3] 1 x.length ⟨0,by omega,rfl,Pm.hid rfl,by simp[keepE,go_sem]⟩ (round:=?_)
  rintro m2 st ⟨k,hk,rfl,hA,rfl⟩
  repeat refine kG ?_
  cases q3:decide ((k:Int)<(x.length:Int))
  ·repeat refine kA ?_
   refine Qb (hx:=?_);have:k=x.length:=by simp at q3;omega
   rw[hr1.out,<-this,hA.out]
  have hk2:k<x.length:=by simp at q3;omega
  obtain⟨y,hy⟩: ∃y,x[k]? =some y:=⟨_,A0 hk2⟩;have hyd:x.getD k []=y:=by rw[A1,hy];rfl
  have hr:=Qu (f:=fun x=>[QaO x]) hy;have T:AD ((decide (k=0)||decide (kind k=0)||decide (nm.count k=Qa4 (Qm x) k))=true->(A2 (k+1)).all (fun k=>decide (k=0)||decide (kind k=0)||decide (nm.count k=Qa4 (Qm x) k))=true):=fun h=>Pl.Qdn (p:=fun k=>decide (k=0)||decide (kind k=0)||decide (nm.count k=Qa4 (Qm x) k)) hA.out h
  have F:AD ((decide (k=0)||decide (kind k=0)||decide (nm.count k=Qa4 (Qm x) k))=false->res=false):=fun h=>by
   rw[hr1.out,Pl.Qdj (p:=fun k=>decide (k=0)||decide (kind k=0)||decide (nm.count k=Qa4 (Qm x) k)) hk2 h]
  have hlook:=hN.out k;have hkz:=Qhq hx k;have hnx:=QeS (x:=x) k;rw[hyd] at hkz hnx;rw[<-hkind] at hkz;rcases Qe8 hx k with⟨h1,_⟩|⟨h1,_,hnb⟩
  ·rw[hyd] at h1
   have e:QaO y= .v (.pointer none):=by unfold QaO;rw[if_pos h1]
   rw[e] at hr;have ht:=Pm.hid (T.out (by rw[decide_eq_true (p:=kind k=0) (hkz.2 h1)];simp));clear T F hA hr1 hkz hnx hyd hy hx
   repeat' first|refine kS ?_|refine qS (iy hr) ?_|refine qD (Qim A9 rfl) ?_|refine kU ?_|fail
   all_goals first|exfalso;simp at*;done|exact Qn (x.length -(k+1)) (by omega) ⟨k+1,by omega,rfl,ht,by simp[keepE,go_sem]⟩
  ·rw[hyd] at h1
   have e:QaO y= .pd (rNode (Qq y).1):=by unfold QaO;rw[if_neg h1]
   rw[e] at hr;rw[hnx] at hnb;have hlink:Qa4 (Qm x) k=(Qq y).1.links.toNat:=by unfold Qa4;rw[hnx]
   have hkn: ¬kind k=0:=fun h=>h1 (hkz.1 h)
   rw[hlink,decide_eq_false hkn] at T F;have hlb:=hnb.links;clear hA hr1 hkz hnx hyd hy hx e hlink hnb;generalize (Qq y).1=N at*;obtain⟨kd,links,size,⟨⟨p1,p2,p3,p4,p5⟩,depth,many⟩⟩:=N;simp only at T F hlb;obtain⟨lk,rfl⟩:=A8 (show 0<=links by omega);rw[A7] at T F;generalize Aa k nm=cn at*
   repeat' first|refine kS ?_|refine qS (iy hr) ?_|refine qD (Qhm A9 rfl) ?_|refine qD (Qdq rfl) ?_|refine qD (QdL A5 A3 (z:= .int .i64 0) (by kernel_rfl) rfl rfl rfl hlook) ?_|refine kU ?_|refine kV ?_ ?_<;>intro q|fail
   all_goals first
    |(have h9:((decide (k=0)||false||decide (cn=lk))=false):=by
       rw[decide_eq_false (show ¬k=0 by clear T F hlook hr hN hnl hhk;simp at*;omega),decide_eq_false (show ¬cn=lk by clear T F hlook hr hN hnl hhk;simp at*;omega)];rfl
      refine Qb (hx:=?_)
      rw[F.out h9];done)
    |(have h9:((decide (k=0)||false||decide (cn=lk))=true):=by
       by_cases hk0:k=0
       ·rw[decide_eq_true hk0];rfl
       ·rw[decide_eq_true (show cn=lk by clear T F hlook hr hN hnl hhk;simp at*;omega)];simp
      exact Qn (x.length -(k+1)) (by omega) ⟨k+1,by omega,rfl,Pm.hid (T.out h9),by simp[keepE,go_sem]⟩)
 obtain⟨f,td,rfl⟩:=List.exists_cons_of_ne_nil hne;obtain⟨m0,rfl⟩: ∃m0,mm=m0+1:=⟨mm -1,by have:=hlf.out;simp only[AC] at this;omega⟩;have hfr:((pre++f::td).map fun n=>[dI (n:Nat)])[pre.length+((0:Int)).toNat]? =some [dI (f:Nat)]:=by simp
 obtain⟨hE,hg⟩:=hm (f:Nat) (by omega);have hcf:=hch f;generalize L (f:Nat)=es at*
 have hst:Gr.bfs kind ch F0 [0] []=match Gr.inner kind (es.map fun e=>e.2.toNat) td nm with|none=>none|some (t',nm')=>Gr.bfs kind ch m0 t' nm':=by
  rw[hR.out,<-hcf]
  conv=>lhs;unfold Gr.bfs
  rfl
 replace hst:=Pm.hid hst
 have hes:es.length<=12:=by unfold Qaa at hE;rw[A6,decide_eq_true_eq] at hE;exact hE.2
 have hids:=Pm.hid (ent_b hE);have hll0:=Pm.hid hll;have hlf2:=Pm.hid (show td.length+Gr.left kind x.length nm<=m0 by have:=hlf.out;simp only[AC] at this;omega)
 have hbnd:nm.length<=204/\td.length<=17:=by
  have:=hnl.out;have:=hlf2.out;omega
 clear hE hcf hB1 hR hm hch hlf hne hll
 have hg:mget m (f:Nat)=some (.sl true 2 (es.map rEnt))∨mget m (f:Nat)=none/\es.map rEnt=[]:=by
  rcases hg with h|⟨h1,h2⟩
  ·exact .inl h
  ·exact .inr ⟨h1,by rw[h2];rfl⟩
 repeat' first|refine kS ?_|refine qD (Qdq rfl) ?_|refine qS (Qdq rfl) ?_|refine qD (Qdf Ty.h rfl rfl hfr rfl) ?_|refine qD (Qfd AQ A3 (by kernel_rfl) rfl rfl hg) ?_|refine kU ?_|refine kV ?_ ?_<;>intro q|fail
 rotate_left
 ·exfalso;simp at*
 clear hfr hg
 refine Qs (fun m2 st=> ∃(j g:Nat) (pre t2 nm2:List Nat) (mp:List (Int×D)),j<=es.length/\m2=es.length -j/\AD (Gr.inner kind (es.map fun e=>e.2.toNat) td nm=Gr.inner kind ((es.drop j).map fun e=>e.2.toNat) t2 nm2)/\nm2.length=nm.length+j/\t2.length<=td.length+j/\AD (QcO mp nm2)/\
  st=⟨89,[(25,.d (tEnts es)),(26,.d (dI es.length)),(27,.d (dI j)),(0,.d (.pd (rFiles s t x m))),(3,.mp 0 0),(4,.osl 1 g pre.length (t2.length+1))],[.mp 0 (imap mp),.arr g 1 3 ((pre++f::t2).map fun n=>[dI (n:Nat)])]⟩) [25,26,27,0,3,4] 2 es.length ⟨0,g,pre,td,nm,mp,by omega,rfl,Pm.hid rfl,rfl,by omega,hN,by simp[keepE,go_sem]⟩ (round:=?_)
 clear hN;rintro m2 st ⟨j,g,pre,t2,nm2,mp,hj,rfl,hI,hn2,ht2,hN,rfl⟩
 repeat refine kG ?_
 cases q3:decide ((j:Int)<(es.length:Int))
 ·have hje:j=es.length:=by simp at q3;omega
  have hin:Gr.inner kind (es.map fun e=>e.2.toNat) td nm=some (t2,nm2):=by rw[hI.out,hje,AR];rfl
  have hlf3:=Pm.hid (Gr.Qg6 hlk.out hin);have hst2:AD (Gr.bfs kind ch F0 [0] []=Gr.bfs kind ch m0 t2 nm2):=Pm.hid (by rw[hst.out,hin]);clear hst hin hI;cases t2 with
  |nil=>
   have hrw:((pre++[f]).map fun n=>[dI (n:Nat)])=(pre++f::[]).map fun n=>[dI (n:Nat)]:=rfl
   repeat' first|refine kS ?_|refine qS (QpJ rfl rfl rfl rfl rfl (by omega) (by simp)) ?_|refine kU ?_|fail
   refine Qn m0 (by omega) ⟨g,pre++[f],[],nm2,mp,hst2,Pm.hid ?_,Pm.hid ?_,hN,.inr ⟨rfl,?_⟩⟩
   ·have:=hlf3.out;have:=hlf2.out;omega
   ·have:=hnl.out;omega
   ·simp[keepE,go_sem]
  |cons a t3=>
   repeat' first|refine kS ?_|refine qS (Qmd rfl rfl rfl rfl rfl (by omega) (by simp;omega)) ?_|refine kU ?_|fail
   refine Qn m0 (by omega) ⟨g,pre++[f],a::t3,nm2,mp,hst2,Pm.hid ?_,Pm.hid ?_,hN,.inl ⟨by simp,?_⟩⟩
   ·have:=hlf3.out;have:=hlf2.out;omega
   ·have:=hnl.out;omega
   ·simp[keepE,go_sem]
 have hj2:j<es.length:=by simp at q3;omega
 obtain⟨e,he⟩: ∃e,es[j]? =some e:=⟨_,A0 hj2⟩;have hr:=Qu (f:=rEnt) he;have heb:=(hids.out e (AA he)).2;have hdr:es.drop j=e::es.drop (j+1):=by rw[List.drop_eq_getElem_cons hj2,(List.getElem?_eq_some_iff.1 he).2]
 replace hI:=hI.out
 rw[hdr,AX] at hI;obtain⟨nmE,id⟩:=e;simp only at heb hI;obtain⟨kid,rfl⟩:=A8 (show 0<=id by omega);rw[A7] at hI
 replace hI:=Pm.hid hI
 have c1:=bNodeAt x (kid:Int) (by omega);rw[Qpb hx kid,<-hkind] at c1;have hlook:=hN.out kid;have hcb:nm2.count kid<=nm2.length:=AK;have hNs:=Pm.hid (Qr7 hN.out kid);clear he hdr hN
 by_cases hk0:kind kid=0
 ·rw[if_pos hk0] at c1
  have hbad:=Pm.hid (hB0.out (by rw[hst.out,hI.out,QpU hk0]));clear hst hI hNs
  repeat' first|refine kS ?_|refine qS (iy hr) ?_|(show AWP _ (.region 8 _ _) _ _;refine(Qa 2 (h:=Fg.awp_drawF (id:=8) [0,1,2,3,4,5,6,7,8,9] [11] ?_)))|refine(Fg.aw_fltL (hl:=fun H=>Qdq rfl) (k:=?_))|refine(Fg.aw_fltL (hl:=fun H=>Qds cK c1 rfl) (k:=?_))|refine kU ?_|fail
  refine Qb (hx:=?_);rw[hbad.out]
 rw[if_neg hk0] at c1;have hkN:kind kid=((Qm x).getD kid Qd).kind.toNat:=by rw[hkind];rfl
 have hNB:NodeB ((Qm x).getD kid Qd):=by
  rcases Qe8 hx kid with⟨_,h2⟩|⟨_,_,h2⟩
  ·rw[h2] at hkN;exact absurd hkN hk0
  ·exact h2
 have hNk:=hNB.kind;clear hNB;generalize (Qm x).getD kid Qd=N at*;obtain⟨kd,links,size,⟨⟨p1,p2,p3,p4,p5⟩,depth,many⟩⟩:=N;simp only at hNk hkN c1;generalize hcn:Aa kid nm2=cn at*;have hlook2:(mget (mset mp (kid:Int) (dI ((cn:Int)+1))) (kid:Int)).getD (.v (.int .i64 0))=dI ((cn:Int)+1):=by rw[Qe7];rfl
 rcases hNk with rfl|rfl
 ·have hk1:kind kid=1:=hkN
  have hI2:=hI.out;rw[QpS hk1] at hI2
  replace hI2:=Pm.hid hI2
  clear hI
  repeat' first|refine kS ?_|refine qS (iy hr) ?_|(show AWP _ (.region 8 _ _) _ _;refine(Qa 2 (h:=Fg.awp_drawF (id:=8) [0,1,2,3,4,5,6,7,8,9] [11] ?_)))|refine(Fg.aw_fltL (hl:=fun H=>Qdq rfl) (k:=?_))|refine(Fg.aw_fltL (hl:=fun H=>Qds cK c1 rfl) (k:=?_))|refine qS (QdL A5 A3 (z:= .int .i64 0) (by kernel_rfl) rfl rfl rfl hlook) ?_|refine(Qh6 A5 A3 (kk:=?_))|refine kU ?_|fail
  all_goals first|exfalso;simp at*;done|refine Qn (es.length -(j+1)) (by omega) ⟨j+1,g,pre,t2,nm2++[kid],_,by omega,rfl,hI2,by simp;omega,by omega,hNs,by simp[keepE,go_sem]⟩
 have hk2:kind kid=2:=hkN
 by_cases hc0:cn=0
 rotate_left
 ·have hbad:=Pm.hid (hB0.out (by rw[hst.out,hI.out,QpT hk2 (by omega)]))
  clear hst hI hNs
  repeat' first|refine kS ?_|refine qS (iy hr) ?_|(show AWP _ (.region 8 _ _) _ _;refine(Qa 2 (h:=Fg.awp_drawF (id:=8) [0,1,2,3,4,5,6,7,8,9] [11] ?_)))|refine(Fg.aw_fltL (hl:=fun H=>Qdq rfl) (k:=?_))|refine(Fg.aw_fltL (hl:=fun H=>Qds cK c1 rfl) (k:=?_))|refine qS (QdL A5 A3 (z:= .int .i64 0) (by kernel_rfl) rfl rfl rfl hlook) ?_|refine(Qh6 A5 A3 (kk:=?_))|refine qS (QdL A5 A3 (z:= .int .i64 0) (by kernel_rfl) rfl rfl rfl hlook2) ?_|refine kU ?_|refine kV ?_ ?_<;>intro q|fail
  all_goals first
   |(exfalso;simp only[decide_eq_true_eq,decide_eq_false_iff_not] at*;omega)
   |(refine Qb (hx:=?_)
     rw[hbad.out];done)
 have hI2:=hI.out;rw[QrW hk2 (by omega)] at hI2
 replace hI2:=Pm.hid hI2
 clear hI
 repeat' first|refine kS ?_|refine qS (iy hr) ?_|(show AWP _ (.region 8 _ _) _ _;refine(Qa 2 (h:=Fg.awp_drawF (id:=8) [0,1,2,3,4,5,6,7,8,9] [11] ?_)))|refine(Fg.aw_fltL (hl:=fun H=>Qdq rfl) (k:=?_))|refine(Fg.aw_fltL (hl:=fun H=>Qds cK c1 rfl) (k:=?_))|refine qS (QdL A5 A3 (z:= .int .i64 0) (by kernel_rfl) rfl rfl rfl hlook) ?_|refine(Qh6 A5 A3 (kk:=?_))|refine qS (QdL A5 A3 (z:= .int .i64 0) (by kernel_rfl) rfl rfl rfl hlook2) ?_|refine(aw_appO (newrows:=[[dI (kid:Nat)]]) rfl (hol:=?_) (hx:=QqX rfl rfl rfl (by decide) ?_) (hnp:=?_) (hb:=?_) (hm:=?_) (k1:=?_) (k2:=?_))|refine kU ?_|refine kV ?_ ?_<;>intro q|fail
 all_goals first
  |(exfalso;simp only[decide_eq_true_eq] at*;omega)
  |(simp;done)
  |(simp;omega)
  |(intro r hr d hd
    obtain rfl:=AM.1 hr;obtain rfl:=AM.1 hd
    rfl)
  |(refine Qn (es.length -(j+1)) (by omega) ⟨j+1,g+1,pre,t2++[kid],nm2++[kid],_,by omega,rfl,hI2,by simp;omega,by simp;omega,hNs,?_⟩;simp[keepE,go_sem];done)
  |(refine Qn (es.length -(j+1)) (by omega) ⟨j+1,g+1,[],t2++[kid],nm2++[kid],_,by omega,rfl,hI2,by simp;omega,by simp;omega,hNs,?_⟩;simp[keepE,go_sem];done)
def Qav(s:Pm.Store)(x:List (List UInt8))(i:Int):List Ql:=(Qf s ((Qm x).getD i.toNat Qd)).1
def QaC(s:Pm.Store)(x:List (List UInt8)):Nat->List (Int×D)
 |0=>[]
 |k+1=>if Qo (Qm x) k=2 then mset (QaC s x k) (k:Nat) (tEnts (Qav s x (k:Nat))) else QaC s x k
theorem QoN(s:Pm.Store)(x:List (List UInt8)): ∀(k j:Nat),mget (QaC s x k) (j:Int)=if j<k/\Qo (Qm x) j=2 then some (tEnts (Qav s x (j:Nat))) else none
 |0,j=>by rw[if_neg (by omega)];simp[QaC,mget]
 |k+1,j=>by
  have ih:=QoN s x k j;unfold QaC
  by_cases hk:Qo (Qm x) k=2
  ·rw[if_pos hk]
   by_cases hj:k=j
   ·subst hj;rw[Qe7,if_pos ⟨by omega,hk⟩]
   ·rw[Qgg (by omega),ih]
    grind
  grind
def Qsw(s:Pm.Store)(x:List (List UInt8))(i:Int):Qaa (Qav s x i)=true:=by
 unfold Qav;rcases Qd0 s ((Qm x).getD i.toNat Qd) with h|h
 ·exact h.2
 ·rw[h];rfl
theorem Qlg(s:Pm.Store)(x:List (List UInt8)):QbV (QaC s x x.length) (Qav s x):=fun n hn=>by
 refine⟨Qsw s x n,?_⟩;obtain⟨j,rfl⟩:=A8 hn;rw[QoN]
 by_cases h:Qo (Qm x) j=2
 ·have:=Qd9 (ns:=Qm x) (k:=j) (by omega)
  grind
 ·rw[if_neg (fun g=>h g.2)]
  refine .inr ⟨rfl,?_⟩;unfold Qav;rw[A7];rcases Qd0 s ((Qm x).getD j Qd) with h2|h2
  ·have:=QeD h2.1
   exfalso;apply h;unfold Qo;omega
  ·rw[h2]
def Qap(s:Pm.Store)(x:List (List UInt8))(k:Nat):Bool:=
 decide (Qo (Qm x) k=0)||(decide (Qo (Qm x) k=1)&&Qa0 s ((Qm x).getD k Qd))||(decide (Qo (Qm x) k=2)&&(Qf s ((Qm x).getD k Qd)).2)
def Qb8(s:Pm.Store)(t:Pl.Tree):Bool:=Qao s t&&decide (Qo (Qm (Qc s t)) 0=2)&&(A2 (Qc s t).length).all (Qap s (Qc s t))
def Qcg(s:Pm.Store)(x:List (List UInt8)):Nat->Option (List Nat):=Gr.chOf (QaL (Qm x) (Qf s))
def QbJ(s:Pm.Store)(x:List (List UInt8)):Bool:=Qcp (Qo (Qm x)) (Qcg s x) (Qa4 (Qm x)) x.length
def QbH(s:Pm.Store)(t:Pl.Tree):D:=
 if Qb8 s t then .tup [.pd (rFiles s t (Qc s t) (QaC s (Qc s t) (Qc s t).length)),dB (QbJ s (Qc s t))] else .tup [.v (.pointer none),dB false]
theorem QsO(s:Pm.Store)(x:List (List UInt8))(k:Nat):(Qcg s x k).getD []=(Qav s x (k:Nat)).map fun e=>e.2.toNat:=by
 unfold Qcg Gr.chOf QaL Qav;rw[A7];rcases Qd0 s ((Qm x).getD k Qd) with h|h
 ·simp_all
 grind
theorem Qiw{s:Pm.Store}{t:Pl.Tree}(h:Qao s t=true):Qcl (Qc s t)/\(Qc s t).length<=16/\ ∀k,Qo (Qm (Qc s t)) k≠0->QL ((Qm (Qc s t)).getD k Qd)=true:=by
 unfold Qao at h;rw[A6,AF] at h;have ht:=Qdu h.1
 have hN: ∀y∈Qc s t,y=[]∨QL (Qq y).1=true:=fun y hy=>by
  have:=h.2 y hy;rw[Bool.or_eq_true,A6] at this;rcases this with h|h
  ·grind
  ·rcases Qg0 y with g|g
   ·exact .inr g.1.1
   grind
 refine⟨fun y hy=>(hN y hy).imp id fun g=>Qe5 g,?_,fun k hk=>?_⟩
 ·rw[texts_len s ht];have:=ht.manyHi;omega
 ·rw[QeS]
  have hlt:k<(Qc s t).length:=by
   have:=Qd9 hk;grind
  have hm:(Qc s t).getD k []∈Qc s t:=by
   grind
  rcases hN _ hm with g|g
  ·exfalso;apply hk;unfold Qo;rw[QeS,g,QkI];rfl
  ·exact g
theorem Qsf(s:Pm.Store)(hg:QM s)(n:Qi):(QbC s n).1.length<=1000000:=by
 unfold QbC;split
 ·rename_i h
  rw[A6] at h;unfold QaT;split
  ·have ht:=Qdu h.1
   have:=Qsj (m:=128) (l:=Qc s n.tree) fun y hy=>by
    unfold Qc at hy;obtain⟨p,_,rfl⟩:=List.mem_map.1 hy;exact QiO s hg p
   have h2:=texts_len s ht;have h3:=ht.manyHi
   grind
  ·simp
 ·simp
theorem Qqb{s:Pm.Store}{n:Qi}(h1:QL n=true)(h2:n.kind=2):Qf s n=if(QbC s n).2=true then QbZ (QbC s n).1 else([],false):=by
 unfold Qf QbC
 grind
theorem Qqn(s:Pm.Store)(hg:QM s)(htx:0<=s.2.2.1)(t:Pl.Tree)(hT: ∀n,QL n=true->n.kind=1->Pure AE 89 [.pd (rSt s),dNode n] (.tup [.any,dB (Qa0 s n)])):
 Pure AE 43 [.pd (rSt s),dTree t] (QbH s t):=by
 have c1:=bNodes s hg htx t;have hd:=Pm.hid (QbH.eq_def s t);have hr:AD (Qb8 s t=(Qao s t&&decide (Qo (Qm (Qc s t)) 0=2)&&(A2 (Qc s t).length).all (Qap s (Qc s t)))):=Pm.hid rfl;generalize QbH s t=res at*;cases htab:Qao s t
 ·rw[htab] at c1 hr
  have hbad:=Pm.hid (hd.out.trans (if_neg (by rw[hr.out];simp)));simp only[AB,if_false] at c1;refine kE ?_;refine Qa 0 (h:=?_)
  repeat refine kA ?_
  refine Qb (hx:=?_);rw[hbad.out]
 obtain⟨hx,hx16,hnok⟩:=Qiw htab;rw[htab] at c1 hr;simp only[if_true] at c1;generalize Qc s t=x at*;have c0:=bNodeAt x 0 (by omega);rw[show Qcv x 0=_ from Qpb hx 0] at c0
 by_cases h02:Qo (Qm x) 0=2
 rotate_left
 ·have hbad:=Pm.hid (hd.out.trans (if_neg (by rw[hr.out,decide_eq_false h02];simp)))
  by_cases h00:Qo (Qm x) 0=0
  ·rw[if_pos h00] at c0
   simp only at c0;clear hd hr hT;refine kE ?_;refine Qa 0 (h:=?_)
   repeat' first|refine kS ?_|refine stepS2 (Qez) (k:=?_)|refine kU ?_|fail
   all_goals first
    |(refine Qb (hx:=?_)
      rw[hbad.out];done)
  ·rw[if_neg h00] at c0
   have hk1:((Qm x).getD 0 Qd).kind≠2:=fun h=>h02 (by unfold Qo;omega)
   generalize (Qm x).getD 0 Qd=N at*;obtain⟨kd,links,size,⟨⟨p1,p2,p3,p4,p5⟩,depth,many⟩⟩:=N;simp only at c0 hk1;have hk2:(kd==2)=false:=by grind
   clear hd hr hT;refine kE ?_;refine Qa 0 (h:=?_)
   repeat' first|refine kS ?_|refine stepS2 (Qez) (k:=?_)|refine kU ?_|refine kV ?_ ?_<;>intro q|fail
   all_goals first
    |(refine Qb (hx:=?_)
      rw[hbad.out];done)
    |(exfalso;grind)
 rw[if_neg (by omega)] at c0
 have hk0:((Qm x).getD 0 Qd).kind=2:=by
  rcases Qe8 hx 0 with⟨_,h⟩|⟨_,_,h⟩
  ·unfold Qo at h02;omega
  ·have:=h.kind;unfold Qo at h02;omega
 have hG:AD ((A2 x.length).all (Qap s x)=true->res= .tup [.pd (rFiles s t x (QaC s x x.length)),dB (QbJ s x)]):=Pm.hid fun h=>hd.out.trans (if_pos (by rw[hr.out,decide_eq_true h02,h];rfl))
 have hB:AD ((A2 x.length).all (Qap s x)=false->res= .tup [.v (.pointer none),dB false]):=Pm.hid fun h=>hd.out.trans (if_neg (by rw[hr.out,h];simp))
 have c9:=bLinked s t x hx16 hx _ _ (Qlg s x) (Qcg s x) (fun k=>QsO s x k);rw[show Qcp (Qo (Qm x)) (Qcg s x) (Qa4 (Qm x)) x.length=QbJ s x from rfl] at c9;clear hd hr;generalize hN0:(Qm x).getD 0 Qd=N at c0 hk0;obtain⟨kd,links,size,⟨⟨p1,p2,p3,p4,p5⟩,depth,many⟩⟩:=N;simp only at c0 hk0;subst hk0;clear hN0;refine kE ?_;refine Qa 0 (h:=?_)
 repeat' first|refine kS ?_|refine stepS2 (Qez) (k:=?_)|refine kU ?_|fail
 refine Qs (fun mm st=> ∃k:Nat,k<=x.length/\mm=x.length -k/\AD ((A2 k).all (Qap s x)=true)/\
  st=⟨98,[(45,.d (tNds x)),(46,.d (dI x.length)),(47,.d (dI k)),(0,.d (.pd (rSt s))),(8,.ptr 2 0 0)],
   [.row 1 [],.mp 0 (imap (QaC s x k)),.row 0 [.d (.pd (rSt s)),.d (dI t.root.pat),.d (dI t.root.birth),.d (dI t.root.size),.d (dI t.root.sum),.d (dI t.root.level),.d (dI t.depth),.d (dI t.many),.d (tNds x),.mp 1 0]]⟩)
  [45,46,47,0,8] 3 x.length ⟨0,by omega,rfl,Pm.hid rfl,by simp[keepE,go_sem,QaC,imap]⟩ (round:=?_)
 rintro mm st ⟨k,hk,rfl,hA,rfl⟩
 repeat refine kG ?_
 cases q3:decide ((k:Int)<(x.length:Int))
 ·have hk3:k=x.length:=by grind
  have hyes:=Pm.hid (hG.out (by rw[<-hk3];exact hA.out));clear hG hB hA;rw[<-hk3] at hyes c9;refine Qa 1 (h:=?_);refine Qa 2 (h:=?_)
  repeat refine kA ?_
  refine Qb (hx:=?_);rw[hyes.out]
 have hk2:k<x.length:=by grind
 obtain⟨y,hy⟩: ∃y,x[k]? =some y:=⟨_,A0 hk2⟩;have hyd:x.getD k []=y:=by grind
 have hr:=Qu (f:=fun x=>[QaO x]) hy;have T:AD (Qap s x k=true->(A2 (k+1)).all (Qap s x)=true):=fun h=>Pl.Qdn (p:=Qap s x) hA.out h
 have F:AD (Qap s x k=false->res= .tup [.v (.pointer none),dB false]):=fun h=>hB.out (Pl.Qdj (p:=Qap s x) hk2 h)
 have hdm:AD (QaC s x (k+1)=if Qo (Qm x) k=2 then mset (QaC s x k) (k:Nat) (tEnts (Qav s x (k:Nat))) else QaC s x k):=Pm.hid (by conv=>lhs;unfold QaC);have hgd:AD (Qap s x k=(decide (Qo (Qm x) k=0)||(decide (Qo (Qm x) k=1)&&Qa0 s ((Qm x).getD k Qd))||(decide (Qo (Qm x) k=2)&&(Qf s ((Qm x).getD k Qd)).2))):=Pm.hid rfl;have hnx:=QeS (x:=x) k;rw[hyd] at hnx;clear hG hB hA c0 c1 c9;rcases Qe8 hx k with⟨h1,h2⟩|⟨h1,_,hnb⟩
 ·rw[hyd] at h1
  have e:QaO y= .v (.pointer none):=by unfold QaO;grind
  rw[e] at hr;have hk0:Qo (Qm x) k=0:=by unfold Qo;rw[h2];rfl
  have ht:=Pm.hid (T.out (by rw[hgd.out,hk0];rfl));have hdm2:AD (QaC s x (k+1)=QaC s x k):=Pm.hid (by rw[hdm.out,if_neg (by omega)]);clear T F hdm hgd hnx hyd hy hx hT hnok
  repeat' first|refine kS ?_|refine qS (iy hr) ?_|refine qS (Qje A9 rfl) ?_|refine kU ?_|fail
  all_goals first
   |(exfalso;simp at*;done)
   |(refine Qn (x.length -(k+1)) (by omega) ⟨k+1,by omega,rfl,ht,?_⟩
     rw[hdm2.out]
     simp[keepE,go_sem];done)
 rw[hyd] at h1;have e:QaO y= .pd (rNode (Qq y).1):=by unfold QaO;grind
 rw[e] at hr;have hkN:Qo (Qm x) k=(Qq y).1.kind.toNat:=by unfold Qo;rw[hnx]
 have hne0:Qo (Qm x) k≠0:=by rw[hkN,<-hnx];have:=hnb.kind;omega
 have hno:=hnok k hne0;have hel:AD (Qav s x (k:Nat)=(Qf s (Qq y).1).1):=Pm.hid (by unfold Qav;simp_all);rw[hnx] at hnb hgd hno;have hkd:=hnb.kind;clear hnx hyd hy e hnok hnb;generalize (Qq y).1=N at*;rcases hkd with hkd|hkd
 ·have hk1:Qo (Qm x) k=1:=by omega
  have c2:=hT N hno hkd;have hgf:Qap s x k=Qa0 s N:=by rw[hgd.out,hk1];simp
  rw[hgf] at T F;have hdm2:AD (QaC s x (k+1)=QaC s x k):=Pm.hid (by rw[hdm.out,if_neg (by omega)]);clear hgf hgd hdm hel hT hx;generalize Qa0 s N=fo at*;obtain⟨kd,links,size,⟨⟨p1,p2,p3,p4,p5⟩,depth,many⟩⟩:=N;simp only at hkd;subst hkd
  repeat' first|refine kS ?_|refine qS (iy hr) ?_|refine qS (Qgj A9 rfl) ?_|refine qS (Qdq rfl) ?_|refine kU ?_|refine kV ?_ ?_<;>intro q|fail
  all_goals first
   |(exfalso;simp at*;done)
   |(refine Qn (x.length -(k+1)) (by omega) ⟨k+1,by omega,rfl,Pm.hid (T.out (by simp_all)),?_⟩
     rw[hdm2.out]
     simp[keepE,go_sem];done)
   |(refine Qb (hx:=?_)
     rw[F.out (by simp_all)];done)
 ·have hk2':Qo (Qm x) k=2:=by omega
  have c3:=QnP s hg htx N;have c4:=QnQ (QbC s N).1 (Qsf s hg N);have hgf:Qap s x k=(Qf s N).2:=by rw[hgd.out,hk2'];simp
  rw[hgf] at T F;have hen:=Qqb (s:=s) hno hkd;have hdm2:AD (QaC s x (k+1)=mset (QaC s x k) (k:Nat) (tEnts (Qf s N).1)):=Pm.hid (by rw[hdm.out,if_pos hk2',hel.out]);rw[hen] at T F hdm2;clear hgf hgd hdm hel hT hx hen;generalize QbC s N=ft at*;obtain⟨ftext,fine⟩:=ft;simp only at c3 c4 T F hdm2;generalize QbZ ftext=eg at*;obtain⟨list,good⟩:=eg;simp only at c4 T F hdm2;obtain⟨kd,links,size,⟨⟨p1,p2,p3,p4,p5⟩,depth,many⟩⟩:=N;simp only at hkd;subst hkd;cases fine
  all_goals simp only[AB,if_false,if_true] at T F hdm2
  all_goals
   repeat' first|refine kS ?_|refine qS (iy hr) ?_|refine qS (Qgj A9 rfl) ?_|refine qS (Qdq rfl) ?_|refine(Qh6 AQ A3 (kk:=?_))|refine kU ?_|refine kV ?_ ?_<;>intro q|fail
  all_goals first
   |(exfalso;simp at*;done)
   |(refine Qn (x.length -(k+1)) (by omega) ⟨k+1,by omega,rfl,Pm.hid (T.out (by simp_all)),?_⟩
     rw[hdm2.out]
     simp[keepE,go_sem];done)
   |(refine Qb (hx:=?_)
     rw[F.out (by simp_all)];done)
