/- Of fsk_card; no condition. -/
import Derived.Test.YtfmnpmhadmcdkaaGreatDoorS24
set_option linter.all false
set_option maxRecDepth 100000
set_option maxHeartbeats 8000000
open Go.Proofs.Tryz renaming underlying92->A4,prog->A5
open List renaming getD_eq_getElem?_getD->A0,getElem?_eq_getElem->A1,range->A2,mem_of_getElem?->A3
namespace Go.Proofs.YtfmnpmhadmcdkaaGreatDoor
noncomputable section
open Go.RowKit
namespace Aw
variable{x:List UInt8}{k:Nat}
attribute [local irreducible] ASeq ADraw AWP Loc
def Qco(l:List (List UInt8))(k:Int):Qj×Bool:=if Pl.inR k 0 ((l.length:Int) -1)&& !(l.getD k.toNat []==[]) then((Qp (l.getD k.toNat [])).1,true) else(Qd,false)
def bNodeAt(l:List (List UInt8))(k:Int)(hl:l.length<=1000):Pure A5 32 [tNds l,dI k] (.tup [dNode (Qco l k).1,dB (Qco l k).2]):=by
 have hd:=Pm.hid (Qco.eq_def l k);have c1:=bIn k 0 ((l.length:Int) -1);cases hi:Pl.inR k 0 ((l.length:Int) -1)
 ·rw[hi] at c1 hd
  refine kC ?_
  repeat refine kA ?_
  (refine Qa 0 (h:=?_);refine QR (hx:=?_))
  rw[hd.out];rfl
 rw[hi] at c1 hd;have hb:0<=k/\k<=(l.length:Int) -1:=by simpa[Pl.inR] using hi
 obtain⟨j,rfl⟩:=Int.eq_ofNat_of_zero_le hb.1;obtain⟨x,hx⟩: ∃x,l[j]? =some x:=⟨_,A1 (by omega)⟩;have hr:=Qt (f:=fun x=>[QaR x]) hx;have hg:l.getD ((j:Nat):Int).toNat []=x:=by rw[Int.toNat_natCast,A0,hx];rfl
 rw[hg] at hd
 by_cases hn:x=[]
 ·have e:QaR x= .v (.pointer none):=by unfold QaR;rw[if_pos hn]
  rw[e] at hr;refine kC ?_
  repeat' first|refine kS ?_|refine qS (iy hr) ?_|refine qS (Qgu A4 rfl) ?_|refine kU ?_|fail
  all_goals
   (refine Qa 0 (h:=?_);refine QR (hx:=?_))
   rw[hd.out,hn];rfl
 have e:QaR x= .pd (rNode (Qp x).1):=by unfold QaR;rw[if_neg hn]
 rw[e] at hr;have hnb:(x==[])=false:=by simpa using hn
 rw[hnb] at hd;generalize (Qp x).1=N at*;obtain⟨kind,links,size,⟨⟨p1,p2,p3,p4,p5⟩,depth,many⟩⟩:=N;refine kC ?_
 repeat' first|refine kS ?_|refine qS (iy hr) ?_|refine qS (QeN A4 rfl) ?_|refine qS (Qdi rfl) ?_|refine kU ?_|fail
 all_goals
  (refine Qa 0 (h:=?_);refine QR (hx:=?_))
  rw[hd.out];rfl
theorem QrH{l:List (List UInt8)}(hx:l[k]? =some x)(h:(A2 k).all (Qav l)=true)(hb:Qav l k=true):(A2 (k+1)).all (Qav l)=true:=by grind
theorem QqX{l:List (List UInt8)}(hx:l[k]? =some x):(l.take (k+1)).flatten=(l.take k).flatten++x:=by grind [List.take_add_one]
theorem flat_le{m:Nat}: ∀{l:List (List UInt8)},(∀x∈l,x.length<=m)->l.flatten.length<=l.length*m
 :=by intro l;induction l<;>grind [Nat.add_mul]
def Qb9(s:Pm.Store)(n:Qj):List UInt8×Bool:=if QH s n.tree&&(QaL (Qc s n.tree)).2 then((QaL (Qc s n.tree)).1,decide (((QaL (Qc s n.tree)).1.length:Int)=n.size)) else([],false)
theorem Qna(s:Pm.Store)(hg:QP s)(htx:0<=s.2.2.1)(n:Qj):Pure A5 108 [.pd (rSt s),dNode n] (.tup [dS (Qb9 s n).1,dB (Qb9 s n).2]):=by
 have c1:=bLeaves s hg htx n.tree;have hd:=Pm.hid (Qb9.eq_def s n);cases ht:QH s n.tree
 ·have e:QD s n.tree=([],false):=by unfold QD;rw[if_neg (by rw[ht];simp)]
  rw[e] at c1;rw[ht] at hd;refine kE ?_;refine Qa 0 (h:=?_)
  repeat refine kA ?_
  refine Qb (hx:=?_);rw[hd.out];rfl
 have e2:(QD s n.tree).2=true:=by unfold QD;rw[if_pos ht]
 have hlen:=Qd9 ht;have hho:=Pm.hid (Qer ht);have htx2:=Pm.hid (Qey ht);rw[ht,Bool.true_and] at hd;rw[e2] at c1;rw[<-hlen.1] at hlen;generalize (QD s n.tree).1=l at*;have hl16:l.length<=16:=hlen.2;have htl:(Qc s n.tree).length=l.length:=by rw[<-htx2.out,List.length_map]
 have hle:=texts_le s hg n.tree;have hgt:Hid (∀(k:Nat) p,l[k]? =some p->(Qc s n.tree)[k]? =some (Qf s.1 p).1):=Pm.hid fun k p hk=>by rw[<-htx2.out,List.getElem?_map,hk];rfl
 clear htx2 hlen e2 ht;generalize Qc s n.tree=xs at*;have hbl:=Pm.hid (QaL.eq_def xs)
 have hNo:Hid (∀k,k<l.length->Qav xs k=false->Qb9 s n=([],false)):=Pm.hid fun k hk h=>by
  have:(A2 xs.length).all (Qav xs)=false:=by rw[List.all_eq_false];exact⟨k,List.mem_range.2 (by omega),by rw[h];simp⟩
  rw[hd.out,hbl.out,this];rfl
 generalize QaL xs=bl at*;generalize hres:Qb9 s n=res at*;clear hres;refine kE ?_;refine Qa 0 (h:=?_)
 repeat refine kA ?_
 refine Qo (fun m st=> ∃(k:Nat) (acc:List UInt8),k<=l.length/\m=l.length -k/\acc.length<=k*128/\Hid (acc=(xs.take k).flatten)/\Hid ((A2 k).all (Qav xs)=true)/\
  st=⟨59,[(0,.d (.pd (rSt s))),(3,.d (.pd (rNode n))),(6,.d (tPtrs l)),(22,.d (tPtrs l)),(23,.d (dI l.length)),(24,.d (dI k)),(8,.d (dS acc))],[.row 1 []]⟩) [0,3,6,22,23,24,8] 1 l.length
  ⟨0,[],by omega,rfl,by simp,Pm.hid (by simp),Pm.hid rfl,by simp[keepE,go_sem]⟩ (round:=?_)
 rintro m st ⟨k,acc,hk,rfl,hal,hac,hA,rfl⟩
 repeat refine kG ?_
 cases q4:decide ((k:Int)<(l.length:Int))
 ·repeat refine kA ?_
  refine Qb (hx:=?_);have:k=l.length:=by simp at q4;omega
  subst this;rw[<-htl] at hA hac;rw[hd.out,hbl.out,if_pos hA.out];rw[List.take_length] at hac;rw[hac.out];simp only[if_true];rfl
 have hk2:k<l.length:=by simp at q4;omega
 obtain⟨x,hx⟩: ∃x,l[k]? =some x:=⟨_,A1 hk2⟩;have hr:=Qt (f:=rPtr) hx;obtain⟨ho1,ho2⟩:=hho.out x (A3 hx);have c3:=bRead s hg x fun _=>ho1
 have hxk:=hgt.out k x hx;have hxl:=hle _ (A3 hxk);have hstep:=Pm.hid (QqX hxk);have hball:Hid (Qav xs k=true->(A2 (k+1)).all (Qav xs)=true):=Pm.hid (QrH hxk hA.out)
 have hbat:Hid (Qav xs k=(!((Qf s.1 x).1==[])&&(!decide ((k:Int)<(l.length:Int) -1)|| !(((Qf s.1 x).1.length:Int) !=128)))):=Pm.hid (by
  unfold Qav;rw[A0,hxk,htl];simp only[Option.getD_some];generalize (Qf s.1 x).1=y
  have a1:decide (k+1=l.length)= !decide ((k:Int)<(l.length:Int) -1):=by
   by_cases h:k+1=l.length
   ·rw[decide_eq_true h,decide_eq_false (by omega)];rfl
   ·rw[decide_eq_false h,decide_eq_true (by omega)];rfl
  have a2:decide (y.length=128)= !((y.length:Int) !=128):=by
   by_cases h:y.length=128
   ·rw[decide_eq_true h,h];rfl
   ·have h2:((y.length:Int) !=128)=true:=by rw[bne_iff_ne];omega
    rw[decide_eq_false h,h2];rfl
  rw[a1,a2])
 have hbad:=Pm.hid (hNo.out k hk2);clear hho hgt hA hd hbl hNo hle hxk ho1 ho2;generalize Qav xs k=bk at*;generalize Qf s.1 x=rb at*;obtain⟨tx,fine⟩:=rb;simp only at*
 repeat' first|refine kS ?_|refine qS (iy hr) ?_|refine qS (QcX rfl rfl (by first|omega|(simp;omega))) ?_|refine kU ?_|refine kV ?_ ?_<;>intro q|fail
 all_goals clear c1 c3 hr
 all_goals first
  |(refine Qb (hx:=?_)
    rw[hbad.out (by rw[hbat.out];clear hball hbad hbat hstep hac;simp_all)])
  |(refine Qh (l.length -(k+1)) (by omega) ⟨k+1,acc++tx,by omega,rfl,by rw[List.length_append];omega,Pm.hid (by rw[hstep.out,hac.out]),Pm.hid (hball.out (by rw[hbat.out];clear hball hbad hbat hstep hac;simp_all)),by simp[keepE,go_sem]⟩)
