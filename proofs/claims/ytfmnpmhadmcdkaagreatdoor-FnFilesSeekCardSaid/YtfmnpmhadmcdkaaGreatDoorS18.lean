/- Of fsk_card; no condition. -/
import Derived.Test.YtfmnpmhadmcdkaaGreatDoorS15
import Derived.Test.YtfmnpmhadmcdkaaGreatDoorS16
set_option linter.all false
set_option maxRecDepth 100000
set_option maxHeartbeats 8000000
open Go.Proofs.Tryz renaming prog->A6
open Go.RowKit renaming Hid->A7
open List renaming take_add_one->A0,getElem?_eq_getElem->A1,take_of_length_le->A2,mem_of_getElem?->A3,all_append->A4,length_map->A5
namespace Go.Proofs.YtfmnpmhadmcdkaaGreatDoor
noncomputable section
open Go.RowKit
namespace Aw
theorem Qj2(b:UInt8)(x:List UInt8): ∀(l:List (List UInt8)),l≠[]->Qap b (l++[x])=Qap b l++(b::x)
 |[],h=>absurd rfl h
 |[a],_=>by simp[Qap]
 |a::c::l,_=>by
  have ih:=Qj2 b x (c::l) (by simp)
  simp_all[Qap]
def Qai(w:Pl.Sto)(l:List Pl.Ptr)(level:Int)(old:Pl.Ptr):Pl.Sto×Pl.Ptr×Bool:=
 if l.all Pl.ptrHole then(w,Pl.hole,true) else
 if !Pl.ptrHole old&&QaU old (QX l).1&&(w.rows.getD old.pat.toNat []==(QX l).1) then(w,old,true) else w.write (QX l).1 level
attribute [local irreducible] ASeq ADraw AWP Loc AStep Fg.PlanF Fg.Flts EndR
def al8None(l:List Pl.Ptr)(hl:l.length<=1000):Pure A6 235 [dPtrs l] (dB (l.all Pl.ptrHole)):=by
 refine kE ?_
 repeat refine kA ?_
 refine Qo (fun m st=> ∃k:Nat,k<=l.length/\m=l.length -k/\A7 ((l.take k).all Pl.ptrHole=true)/\st=⟨16,[(3,.d (dI k)),(0,.d (dPtrs l))],[]⟩) [3,0] 0 l.length ⟨0,by omega,rfl,Pm.hid rfl,rfl⟩ (round:=?_);rintro m st ⟨k,hk,rfl,hA,rfl⟩
 repeat refine kG ?_
 cases q4:decide ((k:Int)<(l.length:Int))
 ·repeat refine kA ?_
  have:k=l.length:=by simp at q4;omega
  have h:=hA.out;rw[this,A2 (Nat.le_refl _)] at h;exact Qb (hx:=by rw[h])
 have hk2:k<l.length:=by simp at q4;omega
 obtain⟨x,hx⟩: ∃x,l[k]? =some x:=⟨_,A1 hk2⟩;have hr:=Qt (f:=rPtr) hx;have c1:=Qdk x;have T:A7 ((l.take (k+1)).all Pl.ptrHole=Pl.ptrHole x):=Pm.hid (by rw[A0,hx,A4,hA.out];simp)
 have F:A7 (Pl.ptrHole x=false->l.all Pl.ptrHole=false):=Pm.hid fun h=>by
  rw[List.all_eq_false];exact⟨x,A3 hx,by simp[h]⟩
 clear hx hA;generalize Pl.ptrHole x=hb at*
 repeat' first|refine kS ?_|refine qS (iy hr) ?_|refine kU ?_|refine kV ?_ ?_<;>intro q|fail
 all_goals first|exact Qb (hx:=by rw[F.out (by simpa using q)])|refine Qh (l.length -(k+1)) (by omega) ⟨k+1,by omega,rfl,Pm.hid (T.out.trans (by simpa using q)),?_⟩;simp[keepE,go_sem];done
theorem aFanPut(l:List Pl.Ptr)(hl:l.length=4):Pure A6 236 [dPtrs l] (.tup [dS (QX l).1,dB (QX l).2]):=by
 have hd:=Pm.hid (QX.eq_def l);refine kE ?_
 repeat' first|refine kA ?_|refine kV ?_ ?_<;>intro q|fail
 all_goals first|exfalso;simp at q;omega|skip
 refine Qo (fun m st=> ∃(k:Nat) (out:List UInt8),k<=4/\m=4 -k/\out.length<=101*k/\A7 (out=Qap 44 ((l.take k).map Pl.ptrPut))/\A7 ((l.take k).all Pl.ptrOk=true)/\
  st=⟨45,[(4,.d (dS out)),(5,.d (dB ((l.take k).any fun p=> !Pl.ptrHole p))),(6,.d (dI k)),(0,.d (dPtrs l))],[]⟩) [4,5,6,0] 0 4 ⟨0,[],by omega,rfl,by simp,Pm.hid rfl,Pm.hid rfl,rfl⟩ (round:=?_)
 rintro m st ⟨k,out,hk,rfl,hol,hO,hA,rfl⟩
 repeat refine kG ?_
 cases q4:decide ((k:Int)<(l.length:Int))
 ·have:k=4:=by simp at q4;omega
  subst this;have h1:=hO.out;have h2:=hA.out;rw[A2 (by omega)] at h1 h2⊢;cases hs:l.any fun p=> !Pl.ptrHole p
  ·repeat refine kA ?_
   exact Qb (hx:=by rw[hd.out,if_neg (by rw[hs];simp)])
  ·repeat refine kA ?_
   exact Qb (hx:=by rw[hd.out,if_pos ⟨hl,hs,h2⟩,<-h1])
 have hk2:k<l.length:=by simp at q4;omega
 obtain⟨x,hx⟩: ∃x,l[k]? =some x:=⟨_,A1 hk2⟩;have hr:=Qt (f:=rPtr) hx;have c1:=Qdk x;have c2:=aPtrOk x;have c3:=aPtrPut x;have hpl:=QfE x;have T1:A7 ((l.take (k+1)).all Pl.ptrOk=Pl.ptrOk x):=Pm.hid (by rw[A0,hx,A4,hA.out];simp);have T2:A7 ((l.take (k+1)).any (fun p=> !Pl.ptrHole p)=((l.take k).any (fun p=> !Pl.ptrHole p)|| !Pl.ptrHole x)):=Pm.hid (by rw[A0,hx,List.any_append];simp)
 have T3:A7 (Qap 44 ((l.take (k+1)).map Pl.ptrPut)=if k=0 then Pl.ptrPut x else out++(44::Pl.ptrPut x)):=Pm.hid (by
  rw[A0,hx,List.map_append,hO.out]
  by_cases h0:k=0
  ·subst h0;simp[Qap]
  ·rw[if_neg h0]
   exact Qj2 _ _ _ (by intro h;have:=congrArg List.length h;rw[A5,List.length_take,List.length_nil] at this;omega))
 have F:A7 (Pl.ptrOk x=false->QX l=([],false)):=Pm.hid fun h=>by
  rw[hd.out,if_neg];intro h2;have:=List.all_eq_true.1 h2.2.2 x (A3 hx);rw[h] at this;cases this
 have h0o:k=0->out=[]:=fun h=>by have:=hO.out;subst h;simpa[Qap] using this
 clear hx hO hA hd;generalize ((l.take k).any fun p=> !Pl.ptrHole p)=sm at*;generalize Pl.ptrPut x=px at*;cases hok:Pl.ptrOk x
 ·rw[hok] at c2
  repeat' first|refine kS ?_|refine qS (iy hr) ?_|refine kU ?_|fail
  exact Qb (hx:=by rw[F.out hok])
 rw[hok] at c2 T1
 cases hhx:Pl.ptrHole x<;>rw[hhx] at c1 T2<;>by_cases h0:k=0<;>cases sm<;>(
  repeat' first|refine kS ?_|refine qS (iy hr) ?_|refine qS (QcX (m:=[44]) rfl rfl (by first|omega|(simp;omega))) ?_|refine qS (QcX rfl rfl (by first|omega|(simp;omega))) ?_|refine kU ?_|refine kV ?_ ?_<;>intro q|fail
  all_goals first
   |(exfalso;simp only[decide_eq_true_eq,decide_eq_false_iff_not] at*;omega)
   |(refine Qh (4 -(k+1)) (by omega) ⟨k+1,out++px,by omega,rfl,by simp;omega,Pm.hid (by rw[T3.out,if_pos h0,h0o h0];rfl),Pm.hid T1.out,?_⟩;rw[T2.out];simp[keepE,go_sem];done)
   |(refine Qh (4 -(k+1)) (by omega) ⟨k+1,out++[44]++px,by omega,rfl,by simp;omega,Pm.hid (by rw[T3.out,if_neg h0];simp),Pm.hid T1.out,?_⟩;rw[T2.out];simp[keepE,go_sem];done))
theorem eFan(g:Nat)(w:Pl.Sto)(N:Nat)(hN:N<=1000000)(hw:w.W N)(l:List Pl.Ptr)(hl:l.length=4)(level:Int)(old:Pl.Ptr)(hold:Pl.ptrOk old=true):
 DoesE A6 166 [oS g w,.d (dPtrs l),.d (dI level),.d (dPtr old)] (hS g w) (gS g w) (fun x H=>x= .tup [oS g (Qai w l level old).1,.d (dPtr (Qai w l level old).2.1),.d (dB (Qai w l level old).2.2)]/\H=hS g (Qai w l level old).1):=by
 have hd:=Pm.hid (Qai.eq_def w l level old);have c1:=al8None l (by omega);have c2:=aFanPut l hl
 have hlen:(QX l).1.length<=Pm.big:=by
  unfold QX;split
  ·have:=Qi2 44 (l.map Pl.ptrPut) 100 (fun x hx=>by obtain⟨p,_,rfl⟩:=List.mem_map.1 hx;exact QfE p)
   simp only[A5] at this;simp only;unfold Pm.big;omega
  ·simp
 have c3:=eWrite g w N hN hw (QX l).1 hlen level;have c4:=Qop old (QX l).1 hlen;have c5:=Qdk old;have hW:=(hw.write (QX l).1 level).1;have l0:(w.write (QX l).1 level).1.rows.length=w.rows.length:=by rw[hW.rows,hw.rows]
 have l1:(w.write (QX l).1 level).1.refs.length=w.refs.length:=by rw[hW.refs,hw.refs]
 have l2:(w.write (QX l).1 level).1.last.length=w.last.length:=by rw[hW.last,hw.last]
 have hg:(w.write (QX l).1 level).1.gone.length=w.gone.length:=by rw[Pl.QeT]
 generalize QX l=ft at*;obtain⟨text,fine⟩:=ft;simp only at*;generalize Qai w l level old=res at*;cases hn:l.all Pl.ptrHole;rotate_left
 ·have hr:A7 (res=(w,Pl.hole,true)):=Pm.hid (by rw[hd.out,if_pos hn])
  rw[hn] at c1;clear c2 c3 c4 c5 hd hW;refine kH fun gvs=>?_
  repeat refine kA ?_
  refine QN 5 (hx:=?_);rw[hr.out];exact⟨rfl,rfl⟩
 rw[hn] at c1 hd;simp only[Bool.false_eq_true,if_false] at hd;cases hh:Pl.ptrHole old;rotate_left
 ·have hr:A7 (res=w.write text level):=Pm.hid (by rw[hd.out,if_neg (by simp[hh])])
  rw[hh] at c5;clear c4 hd hW;generalize w.write text level=wr at*;obtain⟨w2,p2,ok2⟩:=wr;simp only at l0 l1 l2 hg c3;refine kH fun gvs=>?_
  refine Qa 6 (h:=?_)
  repeat' first|refine kS ?_|refine QA [0,1,2,3,4] c3 cK (k:=kX ?_)|refine kU ?_|fail
  all_goals first|refine QN 5 (hx:=?_);rw[hr.out];exact⟨rfl,rfl⟩
 rw[hh] at c5;have hat:=QdD hold hh;obtain⟨a,ha⟩:=Int.eq_ofNat_of_zero_le hat.1;have r1:=Qjj (l:=w.rows) (a:=a) (by rw[hw.rows];omega);have hd:A7 (res=if QaU old text&&(w.rows.getD a []==text) then(w,old,true) else w.write text level):=Pm.hid (by rw[hd.out,hh,ha];simp);generalize w.rows.getD a []=rv at*;generalize w.write text level=wr at*;obtain⟨w2,p2,ok2⟩:=wr;simp only at l0 l1 l2 hg c3;clear hW hold;obtain⟨p1,q2,q3,q4,q5⟩:=old;simp only at ha hat;subst ha;generalize QaU ⟨a,q2,q3,q4,q5⟩ text=ft at*;cases ft
 ·have hd:A7 (res=(w2,p2,ok2)):=Pm.hid (by rw[hd.out];rfl)
  refine kH fun gvs=>?_
  refine Qa 6 (h:=?_)
  repeat' first|refine kS ?_|refine QA [0,1,2,3,4] c3 cK (k:=kX ?_)|refine kU ?_|fail
  all_goals first|refine QN 5 (hx:=?_);rw[hd.out];exact⟨rfl,rfl⟩
 refine kH fun gvs=>?_
 refine Qa 6 (h:=?_)
 repeat' first|refine kS ?_|refine qS (QcY Ty.h rfl rfl r1 rfl) ?_|(show AWP _ (.region 5 _ _) _ _;refine(Fg.awp_drawF (id:=5) [1] [2,3] ?_))|refine QA [0,1,2,3,4] c3 cK (k:=kX ?_)|refine kU ?_|refine kV ?_ ?_<;>intro q|fail
 all_goals first|refine QN 5 (hx:=?_);rw[hd.out,if_pos (by rw[q];rfl)];exact⟨rfl,rfl⟩|refine QN 5 (hx:=?_);rw[hd.out,if_neg (by rw[q];simp)];exact⟨rfl,rfl⟩
