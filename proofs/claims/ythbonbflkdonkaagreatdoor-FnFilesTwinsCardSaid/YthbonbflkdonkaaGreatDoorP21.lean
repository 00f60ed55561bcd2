/- Of ftw_card; no condition. -/
import Derived.Test.YthbonbflkdonkaaGreatDoorP12
import Derived.Test.YthbonbflkdonkaaGreatDoorP14
import Derived.Test.YthbonbflkdonkaaGreatDoorP17
set_option linter.all false
set_option maxRecDepth 100000
set_option maxHeartbeats 8000000
open Go.IntKind renaming u8->A8
open Go.Proofs.Tryz renaming underlying22->A4,prog->A5,underlying5->A6,underlying9->A7
open Int renaming eq_ofNat_of_zero_le->A0
open List renaming length_cons->A1,length_nil->A2,length_append->A3
namespace Go.Proofs.YthbonbflkdonkaaGreatDoor
noncomputable section
open Go.RowKit
namespace Aw
attribute [local irreducible] ASeq ADraw AWP Loc AStep Fg.PlanF Fg.Flts
def al6Dec(k:Nat)(h:k<=4294967296):Pure A5 122 [dI k] (dS (Pl.dec k)):=by
 induction k using Nat.strongRecOn with
 |_ k ih=>
 by_cases h10:k<10
 ·have hd:=Pm.hid (Pl.Qe0 h10)
  have hc:A8.wrap (48+(k:Int))=((Pl.dch k).toNat:Int):=by rw[Pl.Qfq h10,Pm.wrap_u8 _ (by omega) (by omega)];omega
  clear ih;generalize Pl.dch k=c at*;refine kB ?_
  repeat' first|refine kS ?_|refine qS (QdD (D1:= .int .i64) (k':= .u8) (m:=(c.toNat:Int)) (by kernel_rfl) (by kernel_rfl) rfl rfl hc) ?_|refine qS (Qia (l:=[c]) A4 A6 A7 rfl rfl rfl) ?_|refine kU ?_|refine kV ?_ ?_<;>intro q|fail
  all_goals first|exact Qb (hx:=by rw[hd.out])|exfalso;simp at*;omega
 ·have hd:=Pm.hid (Pl.QgF h10)
  have hc:A8.wrap (48+(k:Int)%10)=((Pl.dch (k%10)).toNat:Int):=by rw[Pl.Qfq (by omega),Pm.wrap_u8 _ (by omega) (by omega)];omega
  have c:=ih (k/10) (by omega) (by omega);rw[show((k/10:Nat):Int)=(k:Int)/10 from by omega] at c;have hl:=Pl.Qdc 9 (k/10) (by omega);clear ih;generalize Pl.dch (k%10)=c8 at*;generalize Pl.dec (k/10)=D at*;refine kB ?_
  repeat' first|refine kS ?_|refine qD (Qg6 rfl rfl (by omega) (by omega)) ?_|refine qD (Qg5 rfl rfl (by omega) (by omega)) ?_|refine qD (QdD (D1:= .int .i64) (k':= .u8) (m:=(c8.toNat:Int)) (by kernel_rfl) (by kernel_rfl) rfl rfl hc) ?_|refine qD (Qia (l:=[c8]) A4 A6 A7 rfl rfl rfl) ?_|refine qD (Qdf (m:=[c8]) rfl rfl (by simp only[A1,A2];omega)) ?_|refine kU ?_|refine kV ?_ ?_<;>intro q|fail
  all_goals first|exact Qb (hx:=by rw[hd.out])|exfalso;simp at*;omega
def aPtrPut(p:Pl.Ptr):Pure A5 123 [dPtr p] (dS (Pl.ptrPut p)):=by
 have c1:=aPtrOk p;have c2:=Qdt p;have hd:Hid (Pl.ptrPut p=if Pl.ptrOk p then(if Pl.ptrHole p then [45] else Pl.ptrText p) else []):=Pm.hid rfl;cases h1:Pl.ptrOk p
 ·rw[h1] at c1 hd
  obtain⟨x1,x2,x3,x4,x5⟩:=p;refine kE ?_;refine Qa 0 (h:=?_)
  repeat refine kA ?_
  exact Qb (hx:=by rw[hd.out];rfl)
 cases h2:Pl.ptrHole p;rotate_left
 ·rw[h1] at c1 hd
  rw[h2] at c2 hd;obtain⟨x1,x2,x3,x4,x5⟩:=p;refine kE ?_;refine Qa 0 (h:=?_)
  repeat refine kA ?_
  exact Qb (hx:=by rw[hd.out];rfl)
 have hb:=Pl.QdA h1;rw[h1] at c1 hd;rw[h2] at c2 hd;obtain⟨x1,x2,x3,x4,x5⟩:=p;simp only at hb;obtain⟨⟨a1,b1⟩,⟨a2,b2⟩,⟨a3,b3⟩,⟨a4,b4⟩,⟨a5,b5⟩⟩:=hb;obtain⟨k1,rfl⟩:=A0 a1;obtain⟨k2,rfl⟩:=A0 a2;obtain⟨k3,rfl⟩:=A0 a3;obtain⟨k4,rfl⟩:=A0 a4;obtain⟨k5,rfl⟩:=A0 a5;have e: ∀k:Nat,k<=99460728->Pure A5 122 [dI k] (dS (Pl.dec k))/\(Pl.dec k).length<=10:=fun k h=>⟨al6Dec k (by omega),Pl.Qdc 9 k (by omega)⟩
 obtain⟨d1,l1⟩:=e k1 (by omega);obtain⟨d2,l2⟩:=e k2 (by omega);obtain⟨d3,l3⟩:=e k3 (by omega);obtain⟨d4,l4⟩:=e k4 (by omega);obtain⟨d5,l5⟩:=e k5 (by omega);unfold Pl.ptrText at hd;simp only[Int.toNat_natCast] at hd;generalize Pl.dec k1=t1 at*;generalize Pl.dec k2=t2 at*;generalize Pl.dec k3=t3 at*;generalize Pl.dec k4=t4 at*;generalize Pl.dec k5=t5 at*;clear e;refine kE ?_;refine Qa 0 (h:=?_)
 repeat' first|refine kS ?_|refine qD (Qdf (m:=[46]) rfl rfl (by simp only[A1,A2];omega)) ?_|refine qD (Qdf rfl rfl (by simp only[A3,A1,A2];omega)) ?_|refine kU ?_|fail
 all_goals first|exact Qb (hx:=by rw[hd.out];simp[Pl.dots])
theorem Qkc(l:List (List UInt8))(h1:l.length<=Pm.big)(_h2: ∀s∈l,s.length<=Pm.big):Pure A5 121 [dStrs l] (.tup [dS ((Pl.Qdi l).getD []),dB (Pl.Qdi l).isSome]):=by
 simp only[Pm.big] at h1
 by_cases h60:l.length<=60
 rotate_left
 ·rw[Pl.Qgw (by omega)]
  refine kB ?_
  repeat refine kA ?_
  refine Qq (fun m st=>st=⟨44,[(4,.d (dS [])),(5,.d (dI (0:Nat))),(0,.d (dStrs l))],[]⟩) [4,5,0] 0 0 (by simp[keepE,go_sem]) (round:=?_);rintro m st rfl
  repeat' first|refine kA ?_|refine kV ?_ ?_<;>intro q|fail
  all_goals
   simp only[decide_eq_true_eq,decide_eq_false_iff_not] at*
  all_goals first|exfalso;omega|refine Qb (hx:=?_);rw[decide_eq_false (p:=((l.length:Int)<=60)) (by omega)];rfl
 have hok:=Pm.hid (Pl.QhS (l:=l) h60);have hlo:=Pm.hid fun k=>Pl.QeV (l:=l) (k:=k)
 have hwi:=Pm.hid fun k=>Pl.Qjx (l:=l) (k:=k)
 generalize Pl.Qdi l=r at*;refine kB ?_
 repeat refine kA ?_
 refine Qq (fun m st=> ∃(k:Nat) (out:List UInt8),k<=l.length/\m=l.length -k/\out.length<=2048/\Hid (out=Pl.enc (l.take k))/\st=⟨44,[(4,.d (dS out)),(5,.d (dI k)),(0,.d (dStrs l))],[]⟩) [4,5,0] 0 l.length ⟨0,[],by omega,rfl,by simp,Pm.hid rfl,by simp[keepE,go_sem]⟩ (round:=?_);rintro m st ⟨k,out,hk,rfl,hol,hO,rfl⟩
 by_cases hkl:k<l.length
 rotate_left
 ·have hkk:k=l.length:=by omega
  rw[hkk,List.take_length] at hO;have hf:=hok.out (by rw[<-hO.out];omega);rw[<-hO.out] at hf;clear hok hlo hwi hO;subst hf
  repeat' first|refine kA ?_|refine kV ?_ ?_<;>intro q|fail
  all_goals
   simp only[decide_eq_true_eq,decide_eq_false_iff_not] at*
  all_goals first|exfalso;omega|refine Qb (hx:=?_);rw[decide_eq_true (p:=((l.length:Int)<=60)) (by omega)];rfl
 obtain⟨x,hx⟩: ∃x,l[k]? =some x:=⟨_,List.getElem?_eq_getElem hkl⟩;have hxl:l[k]=x:=(List.getElem?_eq_some_iff.1 hx).2;have hr:=Qs (f:=fun s=>[dS s]) hx;have hw:=Pm.hid (hwi.out k hkl);rw[hxl] at hw;have het:=Pl.QkF l k hkl;rw[hxl,<-hO.out] at het;have hE:=Pm.hid het;have hL:=Pm.hid (hlo.out (k+1));rw[het] at hL;clear hok hlo hwi hO hx hxl het
 by_cases h2:x.length<=2048
 rotate_left
 ·rw[hw.out (by omega)]
  repeat' first|refine kS ?_|refine qD (iy hr) ?_|refine qS (iy hr) ?_|refine kU ?_|refine kV ?_ ?_<;>intro q|fail
  all_goals
   simp only[decide_eq_true_eq,decide_eq_false_iff_not] at*
  all_goals first|exfalso;omega|exact Qb (hx:=rfl)
 have c:=al6Dec x.length (by omega);have hdl:=Pl.Qdc 9 x.length (by omega);unfold Pl.item at hE hL;generalize Pl.dec x.length=d at*
 repeat' first|refine kS ?_|refine qD (iy hr) ?_|refine qS (iy hr) ?_|refine qD (Qdf (m:=[58]) rfl rfl (by first|omega|(simp only[A1,A2];omega))) ?_|refine qD (Qdf rfl rfl (by first|omega|(simp only[A3,A1,A2];omega))) ?_|refine kU ?_|refine kV ?_ ?_<;>intro q|fail
 all_goals
  simp only[decide_eq_true_eq,decide_eq_false_iff_not] at*
 all_goals first
  |(exfalso;omega)
  |(refine Qb (hx:=?_)
    rw[hL.out (by simp at*;omega)]
    rfl)
  |(refine Qg (l.length -(k+1)) (by omega) ⟨k+1,out++d++[58]++x,by omega,rfl,by simp at*;omega,Pm.hid (by rw[hE.out];simp),?_⟩
    simp[keepE,go_sem];done)
