/- Of fby_card; no condition. -/
import Derived.Test.YtfmnpmhadmcdkaaGreatDoorT17
set_option linter.all false
set_option maxRecDepth 100000
set_option maxHeartbeats 8000000
open Bool renaming false_eq_true->A7
open Go renaming TypeId->AI
open Go.Proofs.Tryz renaming prog->A6
open Go.RowKit renaming Hid->AA
open List renaming take_of_length_le->A0,getElem?_eq_getElem->A1,take_add_one->A2,mem_of_getElem?->A3,cons_append->A4,nil_append->A5,length_take->A8,length_map->A9,all_append->AD,mem_append->AE,replicate->AF,map_take->AG
open Nat renaming add_sub_cancel'->AB,le_refl->AC,add_assoc->AH
open Option.some renaming inj->AJ
namespace Go.Proofs.YtfmnpmhadmcdkaaGreatDoor
noncomputable section
open Go.RowKit
namespace Aw
variable{Q0:AV->List Blk->Prop}{H0:List Blk}{gl:List AV}{f:FuncId}{P:Program}{p old:Pl.Ptr}{after:Array Edge}{pos:String}{ty T:AI}{N:Nat}{w:Pl.Sto}{j:Int}{κ':IntKind}{rows':List (List D)}{u y:Operand}{E:TyF}
theorem Qj2(b:UInt8)(x:List UInt8): ∀(l:List (List UInt8)),l≠[]->Qap b (l++[x])=Qap b l++(b::x)
 |[],h=>absurd rfl h
 |[a],_=>by simp[Qap]
 |a::c::l,_=>by
  have ih:=Qj2 b x (c::l) (by simp)
  simp_all[Qap]
def Qai(w:Pl.Sto)(l:List Pl.Ptr)(level:Int)(old:Pl.Ptr):Pl.Sto×Pl.Ptr×Bool:=
 if l.all Pl.ptrHole then(w,Pl.hole,true) else
 if !Pl.ptrHole old&&QaU old (QX l).1&&(w.rows.getD old.pat.toNat []==(QX l).1) then(w,old,true) else w.write (QX l).1 level
attribute [local irreducible] ASeq ADraw AWP Loc AStep Fg.PlanF Fg.Flts EndR
def al8None(l:List Pl.Ptr)(hl:l.length<=1000):Pure A6 235 [dPtrs l] (dB (l.all Pl.ptrHole)):=by
 refine kE ?_
 repeat refine kA ?_
 refine Qo (fun m st=> ∃k:Nat,k<=l.length/\m=l.length -k/\AA ((l.take k).all Pl.ptrHole=true)/\st=⟨16,[(3,.d (dI k)),(0,.d (dPtrs l))],[]⟩) [3,0] 0 l.length ⟨0,by omega,rfl,Pm.hid rfl,rfl⟩ (round:=?_);rintro m st ⟨k,hk,rfl,hA,rfl⟩
 repeat refine kG ?_
 cases q4:decide ((k:Int)<(l.length:Int))
 ·repeat refine kA ?_
  have:k=l.length:=by simp at q4;omega
  have h:=hA.out;rw[this,A0 (AC _)] at h;exact Qb (hx:=by rw[h])
 have hk2:k<l.length:=by simp at q4;omega
 obtain⟨x,hx⟩: ∃x,l[k]? =some x:=⟨_,A1 hk2⟩;have hr:=Qt (f:=rPtr) hx;have c1:=Qdk x;have T:AA ((l.take (k+1)).all Pl.ptrHole=Pl.ptrHole x):=Pm.hid (by rw[A2,hx,AD,hA.out];simp)
 have F:AA (Pl.ptrHole x=false->l.all Pl.ptrHole=false):=Pm.hid fun h=>by
  rw[List.all_eq_false];exact⟨x,A3 hx,by simp[h]⟩
 clear hx hA;generalize Pl.ptrHole x=hb at*
 repeat' first|refine kS ?_|refine qS (iy hr) ?_|refine kU ?_|refine kV ?_ ?_<;>intro q|fail
 all_goals first|exact Qb (hx:=by rw[F.out (by simpa using q)])|refine Qh (l.length -(k+1)) (by omega) ⟨k+1,by omega,rfl,Pm.hid (T.out.trans (by simpa using q)),?_⟩;simp[keepE,go_sem];done
theorem aFanPut(l:List Pl.Ptr)(hl:l.length=4):Pure A6 236 [dPtrs l] (.tup [dS (QX l).1,dB (QX l).2]):=by
 have hd:=Pm.hid (QX.eq_def l);refine kE ?_
 repeat' first|refine kA ?_|refine kV ?_ ?_<;>intro q|fail
 all_goals first|exfalso;simp at q;omega|skip
 refine Qo (fun m st=> ∃(k:Nat) (out:List UInt8),k<=4/\m=4 -k/\out.length<=101*k/\AA (out=Qap 44 ((l.take k).map Pl.ptrPut))/\AA ((l.take k).all Pl.ptrOk=true)/\
  st=⟨45,[(4,.d (dS out)),(5,.d (dB ((l.take k).any fun p=> !Pl.ptrHole p))),(6,.d (dI k)),(0,.d (dPtrs l))],[]⟩) [4,5,6,0] 0 4 ⟨0,[],by omega,rfl,by simp,Pm.hid rfl,Pm.hid rfl,rfl⟩ (round:=?_)
 rintro m st ⟨k,out,hk,rfl,hol,hO,hA,rfl⟩
 repeat refine kG ?_
 cases q4:decide ((k:Int)<(l.length:Int))
 ·have:k=4:=by simp at q4;omega
  subst this;have h1:=hO.out;have h2:=hA.out;rw[A0 (by omega)] at h1 h2⊢;cases hs:l.any fun p=> !Pl.ptrHole p
  ·repeat refine kA ?_
   exact Qb (hx:=by rw[hd.out,if_neg (by rw[hs];simp)])
  ·repeat refine kA ?_
   exact Qb (hx:=by rw[hd.out,if_pos ⟨hl,hs,h2⟩,<-h1])
 have hk2:k<l.length:=by simp at q4;omega
 obtain⟨x,hx⟩: ∃x,l[k]? =some x:=⟨_,A1 hk2⟩;have hr:=Qt (f:=rPtr) hx;have c1:=Qdk x;have c2:=aPtrOk x;have c3:=aPtrPut x;have hpl:=QfE x;have T1:AA ((l.take (k+1)).all Pl.ptrOk=Pl.ptrOk x):=Pm.hid (by rw[A2,hx,AD,hA.out];simp);have T2:AA ((l.take (k+1)).any (fun p=> !Pl.ptrHole p)=((l.take k).any (fun p=> !Pl.ptrHole p)|| !Pl.ptrHole x)):=Pm.hid (by rw[A2,hx,List.any_append];simp)
 have T3:AA (Qap 44 ((l.take (k+1)).map Pl.ptrPut)=if k=0 then Pl.ptrPut x else out++(44::Pl.ptrPut x)):=Pm.hid (by
  rw[A2,hx,List.map_append,hO.out]
  by_cases h0:k=0
  ·subst h0;simp[Qap]
  ·rw[if_neg h0]
   exact Qj2 _ _ _ (by intro h;have:=congrArg List.length h;rw[A9,A8,List.length_nil] at this;omega))
 have F:AA (Pl.ptrOk x=false->QX l=([],false)):=Pm.hid fun h=>by
  rw[hd.out,if_neg];intro h2;have:=List.all_eq_true.1 h2.2.2 x (A3 hx);rw[h] at this;cases this
 have h0o:k=0->out=[]:=fun h=>by have:=hO.out;subst h;simpa[Qap] using this
 clear hx hO hA hd;generalize ((l.take k).any fun p=> !Pl.ptrHole p)=sm at*;generalize Pl.ptrPut x=px at*;cases hok:Pl.ptrOk x
 ·rw[hok] at c2
  repeat' first|refine kS ?_|refine qS (iy hr) ?_|refine kU ?_|fail
  exact Qb (hx:=by rw[F.out hok])
 rw[hok] at c2 T1
 cases hhx:Pl.ptrHole x<;>rw[hhx] at c1 T2<;>by_cases h0:k=0<;>cases sm<;>(
  repeat' first|refine kS ?_|refine qS (iy hr) ?_|refine qS (QcX (m:=[44]) rfl rfl (by first|omega|(simp;omega))) ?_|refine qS (QcX rfl rfl (by first|omega|(simp;omega))) ?_|refine kU ?_|refine kV ?_ ?_<;>intro q|fail
  all_goals first
   |(exfalso;simp only[decide_eq_true_eq,decide_eq_false_iff_not] at*;omega)
   |(refine Qh (4 -(k+1)) (by omega) ⟨k+1,out++px,by omega,rfl,by simp;omega,Pm.hid (by rw[T3.out,if_pos h0,h0o h0];rfl),Pm.hid T1.out,?_⟩;rw[T2.out];simp[keepE,go_sem];done)
   |(refine Qh (4 -(k+1)) (by omega) ⟨k+1,out++[44]++px,by omega,rfl,by simp;omega,Pm.hid (by rw[T3.out,if_neg h0];simp),Pm.hid T1.out,?_⟩;rw[T2.out];simp[keepE,go_sem];done))
theorem eFan(g:Nat)(w:Pl.Sto)(N:Nat)(hN:N<=1000000)(hw:w.W N)(l:List Pl.Ptr)(hl:l.length=4)(level:Int)(old:Pl.Ptr)(hold:Pl.ptrOk old=true):
 DoesE A6 166 [oS g w,.d (dPtrs l),.d (dI level),.d (dPtr old)] (hS g w) (gS g w) (fun x H=>x= .tup [oS g (Qai w l level old).1,.d (dPtr (Qai w l level old).2.1),.d (dB (Qai w l level old).2.2)]/\H=hS g (Qai w l level old).1):=by
 have hd:=Pm.hid (Qai.eq_def w l level old);have c1:=al8None l (by omega);have c2:=aFanPut l hl
 have hlen:(QX l).1.length<=Pm.big:=by
  unfold QX;split
  ·have:=Qi2 44 (l.map Pl.ptrPut) 100 (fun x hx=>by obtain⟨p,_,rfl⟩:=List.mem_map.1 hx;exact QfE p)
   simp only[A9] at this;simp only;unfold Pm.big;omega
  ·simp
 have c3:=eWrite g w N hN hw (QX l).1 hlen level;have c4:=Qop old (QX l).1 hlen;have c5:=Qdk old;have hW:=(hw.write (QX l).1 level).1;have l0:(w.write (QX l).1 level).1.rows.length=w.rows.length:=by rw[hW.rows,hw.rows]
 have l1:(w.write (QX l).1 level).1.refs.length=w.refs.length:=by rw[hW.refs,hw.refs]
 have l2:(w.write (QX l).1 level).1.last.length=w.last.length:=by rw[hW.last,hw.last]
 have hg:(w.write (QX l).1 level).1.gone.length=w.gone.length:=by rw[Pl.QeT]
 generalize QX l=ft at*;obtain⟨text,fine⟩:=ft;simp only at*;generalize Qai w l level old=res at*;cases hn:l.all Pl.ptrHole;rotate_left
 ·have hr:AA (res=(w,Pl.hole,true)):=Pm.hid (by rw[hd.out,if_pos hn])
  rw[hn] at c1;clear c2 c3 c4 c5 hd hW;refine kH fun gvs=>?_
  repeat refine kA ?_
  refine QN 5 (hx:=?_);rw[hr.out];exact⟨rfl,rfl⟩
 rw[hn] at c1 hd;simp only[A7,if_false] at hd;cases hh:Pl.ptrHole old;rotate_left
 ·have hr:AA (res=w.write text level):=Pm.hid (by rw[hd.out,if_neg (by simp[hh])])
  rw[hh] at c5;clear c4 hd hW;generalize w.write text level=wr at*;obtain⟨w2,p2,ok2⟩:=wr;simp only at l0 l1 l2 hg c3;refine kH fun gvs=>?_
  refine Qa 6 (h:=?_)
  repeat' first|refine kS ?_|refine QA [0,1,2,3,4] c3 cK (k:=kX ?_)|refine kU ?_|fail
  all_goals first|refine QN 5 (hx:=?_);rw[hr.out];exact⟨rfl,rfl⟩
 rw[hh] at c5;have hat:=QdD hold hh;obtain⟨a,ha⟩:=Int.eq_ofNat_of_zero_le hat.1;have r1:=Qjj (l:=w.rows) (a:=a) (by rw[hw.rows];omega);have hd:AA (res=if QaU old text&&(w.rows.getD a []==text) then(w,old,true) else w.write text level):=Pm.hid (by rw[hd.out,hh,ha];simp);generalize w.rows.getD a []=rv at*;generalize w.write text level=wr at*;obtain⟨w2,p2,ok2⟩:=wr;simp only at l0 l1 l2 hg c3;clear hW hold;obtain⟨p1,q2,q3,q4,q5⟩:=old;simp only at ha hat;subst ha;generalize QaU ⟨a,q2,q3,q4,q5⟩ text=ft at*;cases ft
 ·have hd:AA (res=(w2,p2,ok2)):=Pm.hid (by rw[hd.out];rfl)
  refine kH fun gvs=>?_
  refine Qa 6 (h:=?_)
  repeat' first|refine kS ?_|refine QA [0,1,2,3,4] c3 cK (k:=kX ?_)|refine kU ?_|fail
  all_goals first|refine QN 5 (hx:=?_);rw[hd.out];exact⟨rfl,rfl⟩
 refine kH fun gvs=>?_
 refine Qa 6 (h:=?_)
 repeat' first|refine kS ?_|refine qS (QcY Ty.h rfl rfl r1 rfl) ?_|(show AWP _ (.region 5 _ _) _ _;refine(Fg.awp_drawF (id:=5) [1] [2,3] ?_))|refine QA [0,1,2,3,4] c3 cK (k:=kX ?_)|refine kU ?_|refine kV ?_ ?_<;>intro q|fail
 all_goals first|refine QN 5 (hx:=?_);rw[hd.out,if_pos (by rw[q];rfl)];exact⟨rfl,rfl⟩|refine QN 5 (hx:=?_);rw[hd.out,if_neg (by rw[q];simp)];exact⟨rfl,rfl⟩
theorem Qp6{σ:Sg}{S:Nat->Prop}{H:List Blk}{w:World}{x:AV}{v:Value}(h:Rel σ S H w x v):Rel σ S H w x.weak1 v:=by
 cases x with
 |d x=>cases h with|d _ _ h=>exact .d _ _ h.weak
 |_=>exact h
theorem DoesE.arg{l l':List AV}(h:DoesE P f l' H0 gl Q0)(ha:l.map AV.weak1=l':=by rfl):DoesE P f l H0 gl Q0:=by
 intro B σ S w cargs gvs h1 h2 h3 h4 h5 h6;subst ha;refine h B σ S w cargs gvs h1 h2 (by grind) (fun i d v hd hv=>?_) h5 h6
 grind [Qp6]
theorem Qly{dst:Option Tmp}{T':AI}{gd:Option (Nat×Bool)}{env:List (Nat×AV)}{H:List Blk}{x y:Tmp}{q:Pl.Ptr}(hx:aval env (.tmp x)= .d (dPtr p))(hy:aval env (.tmp y)= .d (dPtr q)):
 Loc A6 ⟨dst,.binOp .eql 31 (.tmp x) (.tmp y) T',ty,pos,after,gd⟩ env H (.d (dB (decide (p=q)))) none:=
 loc_bin' (X:= .agg #[.int .i64 p.pat,.int .i64 p.birth,.int .i64 p.size,.int .i64 p.sum,.int .i64 p.level]) (Y:= .agg #[.int .i64 q.pat,.int .i64 q.birth,.int .i64 q.size,.int .i64 q.sum,.int .i64 q.level]) (by rw[hx];rfl) (by rw[hy];rfl) fun w=>by
  obtain⟨p1,p2,p3,p4,p5⟩:=p;obtain⟨q1,q2,q3,q4,q5⟩:=q
  go_simp
  grind
def Qz(w:Pl.Sto)(l:List Pl.Ptr)(level:Int)(was:List Pl.Ptr):Nat->Pl.Sto×List Pl.Ptr×List Pl.Ptr×Bool
 |0=>(w,[],[],true)
 |i+1=>if(Qz w l level was i).2.2.2 then
   (if(Qai (Qz w l level was i).1 ((l.take (4*(i+1))).drop (4*i)) level (was.getD i Pl.hole)).2.2 then
     ((Qai (Qz w l level was i).1 ((l.take (4*(i+1))).drop (4*i)) level (was.getD i Pl.hole)).1,(Qz w l level was i).2.1++[(Qai (Qz w l level was i).1 ((l.take (4*(i+1))).drop (4*i)) level (was.getD i Pl.hole)).2.1],
       (Qz w l level was i).2.2.1++(if(Qai (Qz w l level was i).1 ((l.take (4*(i+1))).drop (4*i)) level (was.getD i Pl.hole)).2.1=was.getD i Pl.hole then [was.getD i Pl.hole] else []),true)
   else((Qz w l level was i).1,(Qz w l level was i).2.1,(Qz w l level was i).2.2.1,false)) else Qz w l level was i
def Q3(l:List Pl.Ptr):List Pl.Ptr:=l++AF ((4 -l.length%4)%4) Pl.hole
def Qv(w:Pl.Sto)(t:Pl.Tree)(l:List Pl.Ptr)(depth:Int):Nat->Pl.Sto×List Pl.Ptr×List Pl.Ptr×Bool
 |0=>(w,l,[],true)
 |k+1=>if(Qv w t l depth k).2.2.2 then
   ((Qz (Qv w t l depth k).1 (Q3 (Qv w t l depth k).2.1) (k+1:Nat) (QL (Qv w t l depth k).1.st t depth (k+1:Nat)) ((Q3 (Qv w t l depth k).2.1).length/4)).1,
    (Qz (Qv w t l depth k).1 (Q3 (Qv w t l depth k).2.1) (k+1:Nat) (QL (Qv w t l depth k).1.st t depth (k+1:Nat)) ((Q3 (Qv w t l depth k).2.1).length/4)).2.1,
    (Qv w t l depth k).2.2.1++(Qz (Qv w t l depth k).1 (Q3 (Qv w t l depth k).2.1) (k+1:Nat) (QL (Qv w t l depth k).1.st t depth (k+1:Nat)) ((Q3 (Qv w t l depth k).2.1).length/4)).2.2.1,
    (Qz (Qv w t l depth k).1 (Q3 (Qv w t l depth k).2.1) (k+1:Nat) (QL (Qv w t l depth k).1.st t depth (k+1:Nat)) ((Q3 (Qv w t l depth k).2.1).length/4)).2.2.2) else Qv w t l depth k
def QaQ(old stays:List Pl.Ptr):List Pl.Ptr:=old.filter fun p=> !stays.contains p
def Q2(many:Nat):Nat:=if many<=1 then 0 else if many<=4 then 1 else 2
def Qw(w:Pl.Sto)(t:Pl.Tree)(leaves:List Pl.Ptr)(many:Nat):Pl.Sto×Pl.Tree×Bool:=
 if(Qv w t (leaves.take many) (Q2 many) (Q2 many)).2.2.2 then
  ((Qv w t (leaves.take many) (Q2 many) (Q2 many)).1.freeL (QaQ (Q9 w.st t) (Qv w t (leaves.take many) (Q2 many) (Q2 many)).2.2.1),⟨(Qv w t (leaves.take many) (Q2 many) (Q2 many)).2.1.getD 0 Pl.hole,Q2 many,many⟩,true)
 else((Qv w t (leaves.take many) (Q2 many) (Q2 many)).1,⟨Pl.hole,0,0⟩,false)
theorem Qrj(h:w.W N){l:List Pl.Ptr}{level:Int}(ho:Pl.ptrOk old=true):(Qai w l level old).1.W (N+1)/\Pl.ptrOk (Qai w l level old).2.1=true/\(Qai w l level old).1.gone=w.gone:=by
 unfold Qai;split
 ·exact⟨h.le (by omega),QdA,rfl⟩
 ·split
  ·exact⟨h.le (by omega),ho,rfl⟩
  ·have:=h.write (QX l).1 level
   grind [Pl.QeT]
theorem Qgy{l:List Pl.Ptr}(h: ∀p∈l,Pl.ptrOk p=true)(i:Nat):Pl.ptrOk (l.getD i Pl.hole)=true:=by grind [QdA]
theorem Qri{w:Pl.Sto}{N:Nat}(h:w.W N){l:List Pl.Ptr}{level:Int}{was:List Pl.Ptr}(ho: ∀p∈was,Pl.ptrOk p=true): ∀i,(Qz w l level was i).1.W (N+i)/\(Qz w l level was i).1.gone=w.gone/\
 (∀p∈(Qz w l level was i).2.1,Pl.ptrOk p=true)/\(Qz w l level was i).2.1.length<=i/\(Qz w l level was i).2.2.1.length<=i
 |0=>⟨h,rfl,by simp[Qz],by simp[Qz],by simp[Qz]⟩
 |i+1=>by
  obtain⟨h1,h2,h3,h4,h5⟩:=Qri h (l:=l) (level:=level) ho i;have:=Qrj h1 (l:=(l.take (4*(i+1))).drop (4*i)) (level:=level) (Qgy ho i);simp only[Qz];generalize Qz w l level was i=r at*;generalize Qai r.1 ((l.take (4*(i+1))).drop (4*i)) level (was.getD i Pl.hole)=y at*;split
  ·split
   ·grind
   ·exact⟨h1.le (by omega),h2,h3,by grind,by grind⟩
  ·exact⟨h1.le (by omega),h2,h3,by omega,by omega⟩
theorem Qj8{l:List Pl.Ptr}{level:Int}{was:List Pl.Ptr}{i:Nat}(h:(Qz w l level was i).2.2.2=false): ∀j,Qz w l level was (i+j)=Qz w l level was i
 :=by intro l;induction l<;>grind [Qz]
theorem Qq8{t:Pl.Tree}{l:List Pl.Ptr}{depth:Int}{k:Nat}(h:(Qv w t l depth k).2.2.2=false): ∀j,Qv w t l depth (k+j)=Qv w t l depth k
 :=by intro l;induction l<;>grind [Qv]
theorem QoX{l:List Pl.Ptr}{level:Int}(h:(Qai w l level old).2.2=false):(Qai w l level old).1=w:=by
 unfold Qai at h⊢;split
 ·rfl
 ·rename_i h1
  rw[if_neg h1] at h;split
  ·rfl
  ·rename_i h2
   rw[if_neg h2] at h;unfold Pl.Sto.write at h⊢;cases hs:w.seek (QX l).1 level with
   |none=>rfl
   |some a=>
    grind [Pl.Sto.put]
theorem Qkm(s:Pm.Store)(t:Pl.Tree)(ht:Pl.ptrOk t.root=true):(∀p∈Q9 s t,Pl.ptrOk p=true)/\(Q9 s t).length<=5:=by grind [Q9,QhU,QeK]
def DoesE.pins{args:List AV}(h:DoesE P f args H0 gl Q0):DoesE P f args H0 gl fun x H1=>Q0 x H1/\ ∀i C,H0[i]? =some C-> ∃C',H1[i]? =some C'/\pin1 gl i C C':=
 fun B σ S w cargs gvs h1 h2 h3 h4 h5 h6=>(h B σ S w cargs gvs h1 h2 h3 h4 h5 h6).mono fun _ _ ⟨x,H1,h7,h8,h9⟩=>⟨x,H1,⟨h7,h8⟩,h8,h9⟩
theorem eFree2(g:Nat)(w:Pl.Sto)(N:Nat)(hN:N<=1000000)(hw:w.W N)(p:Pl.Ptr)(hp:Pl.ptrOk p=true):
 DoesE A6 97 [oS g w,.d (dPtr p)] (hS g w) (gS g w) (fun x H=> ∃g',(g<g'∨g'=g/\(w.free p).gone.length=w.gone.length)/\x=oS g' (w.free p)/\H=hS g' (w.free p)):=by
 intro B σ S w0 cargs gvs h1 h2 h3 h4 h5 h6;refine((eFree g w N hN hw p hp).pins B σ S w0 cargs gvs h1 h2 h3 h4 h5 h6).mono ?_;rintro _ _ ⟨x,H1,⟨⟨g',rfl,rfl⟩,h7⟩,h8,h9⟩;refine⟨_,_,⟨g',?_,rfl,rfl⟩,h8,h9⟩;obtain⟨C',e1,e2⟩:=h7 3 _ rfl;obtain rfl:=AJ e1;obtain⟨_,_,e3|⟨e3,e4,_⟩⟩:=e2
 ·omega
 grind
attribute [local irreducible] Fk.PlanF Fk.Flts Fk.AStepM Fk.Grew Fk.Gs
theorem Qjw{dst:Option Tmp}{gd:Option (Nat×Bool)}{env:List (Nat×AV)}{H:List Blk}{e:AI}{F:TyF}{x:Operand}{rows:List (List D)}{κ:IntKind}{i:Int} [hT:Ty P T F](he:F.elem=some e) [hE:Ty P e E](hu:aval env u= .d (.sl true E.size rows))(hx:aval env x= .d (.v (.int κ i)))(hy:aval env y= .d (.v (.int κ' j)))
 (h0:0<=i) (h1:i<=j) (h2:j<=rows.length) (hq:(rows.take j.toNat).drop i.toNat=rows'):Loc P ⟨dst,.slice T u (some x) (some y) none,ty,pos,after,gd⟩ env H (.d (.sl true E.size rows')) none:=by grind [Qlu]
theorem Qq2{dst:Option Tmp}{gd:Option (Nat×Bool)}{env:List (Nat×AV)}{H:List Blk}{e:AI}{F:TyF}{rows:List (List D)} [hT:Ty P T F](he:F.elem=some e) [hE:Ty P e E](hu:aval env u= .d (.sl true E.size rows))(hy:aval env y= .d (.v (.int κ' j)))
 (h0:0<=j) (h2:j<=rows.length) (hq:rows.take j.toNat=rows'):Loc P ⟨dst,.slice T u none (some y) none,ty,pos,after,gd⟩ env H (.d (.sl true E.size rows')) none:=by grind [QfX]
theorem fan_four'{s:List UInt8}(h:(QaF s).2=true):(QaF s).1.length=4:=by grind [QaF]
theorem QjI{s:Pm.Store}{n:Int}(h:(Qi s p n).2=true):(Qi s p n).1.length=4:=by grind [Qi,fan_four']
theorem QsH(s:Pm.Store)(t:Pl.Tree)(depth level:Int):level≠depth->(QL s t depth level).length=4:=by grind [QL,QjI]
theorem QsG(s:Pm.Store)(t:Pl.Tree)(depth level:Int):1<=(QL s t depth level).length/\(QL s t depth level).length<=4:=by grind [QL,QjI]
theorem Qqk(s:Pm.Store)(t:Pl.Tree)(depth level:Int)(ht:Pl.ptrOk t.root=true): ∀p∈QL s t depth level,Pl.ptrOk p=true:=by grind [QdA,QL,QhU]
abbrev zSt:List AV:=[.d (.v (.slice none 0 0)),.d (.v (.slice none 0 0)),.d (.v (.slice none 0 0)),.d (.v (.int .i64 0)),.d (.v (.slice none 0 0)),.d (.v (.int .i64 0)),.d (.v (.slice none 0 0)),.d (.v (.bool false))]
abbrev zTr:List AV:=[.d (.v (.int .i64 0)),.d (.v (.int .i64 0)),.d (.v (.int .i64 0)),.d (.v (.int .i64 0)),.d (.v (.int .i64 0)),.d (.v (.int .i64 0)),.d (.v (.int .i64 0))]
abbrev zPt:List AV:=[.d (.v (.int .i64 0)),.d (.v (.int .i64 0)),.d (.v (.int .i64 0)),.d (.v (.int .i64 0)),.d (.v (.int .i64 0))]
def Qef(n1:Nat)(ts ks:List Nat){I:Nat->St->Prop}{ts0:List Nat}{m n:Nat}{env env':List (Nat×AV)}{H H':List Blk}(h1:n1<n)(h2:I n1 ⟨N,env',H'⟩)(he:keepE env ts=renE (pk ks) env':=by rfl)(hks:ks.map (fun k=>H[k]?)=(H'.map (Blk.ren (pk ks))).map some:=by rfl)(hnd:ks.Nodup:=by decide)
 (h3:envLt H'.length env'=true:=by rfl) (h4:H'.all (Blk.lt H'.length)=true:=by rfl):Back I ts0 m n ⟨N,env,H⟩:=⟨_,n1,QkL ts ks he hks hnd h3 h4,h1,h2⟩
abbrev rowS(g:Nat)(w:Pl.Sto):List AV:=[.osl 0 1 0 64,.osl 1 1 0 64,.osl 2 1 0 64,.d (dI w.txg),.osl 3 g 0 w.gone.length,.d (dI 0),.osl 4 1 0 0,.d (dB w.same)]
theorem eLay(g:Nat)(w:Pl.Sto)(N:Nat)(hN:N<=900000)(hw:w.W N)(t:Pl.Tree)(ht:Pl.ptrOk t.root=true)(leaves:List Pl.Ptr)(hl:leaves.length=16)(hlo: ∀p∈leaves,Pl.ptrOk p=true)(many:Nat)(hm:many<=16):
 DoesE A6 96 [oS g w,.d (dTree t),.d (tPtrs leaves),.d (dI many)] (hS g w) (gS g w) (fun x H=> ∃g',((Qw w t leaves many).2.2=false->g'=g)/\x= .tup [oS g' (Qw w t leaves many).1,.d (dTree (Qw w t leaves many).2.1),.d (dB (Qw w t leaves many).2.2)]/\H=hS g' (Qw w t leaves many).1):=by
 have c1:Pure A6 163 [dI many] (dI (Q2 many)):=by
  have:=QkG many
  have e:(if(many:Int)<=1 then 0 else if(many:Int)<=4 then 1 else 2)=((Q2 many:Nat):Int):=by
   unfold Q2;split<;>split<;>(try split)<;>(try split)<;>first|rfl|omega
  rw[e] at this;exact this
 have c2:=eInner g w N hw t;have hd:=Pm.hid (Qw.eq_def w t leaves many);have hdep:AA (Q2 many<=2/\(Q2 many=1->many<=4)):=Pm.hid (by unfold Q2;split<;>(try split)<;>omega);have hE0:(leaves.map rPtr).take (many:Int).toNat=(leaves.take many).map rPtr:=by rw[Int.toNat_natCast,AG]
 have hl0:(leaves.take many).length=many:=by rw[A8];omega
 have hE1:([]:List (List D)).length+((leaves.take many).map rPtr).length=many:=by rw[A9,hl0];simp
 have hlk:AA (∀p∈leaves.take many,Pl.ptrOk p=true):=Pm.hid fun p hp=>hlo p (List.mem_of_mem_take hp)
 generalize leaves.take many=l0 at*;have hold:AA (∀p∈Q9 w.st t,Pl.ptrOk p=true):=Pm.hid (Qkm w.st t ht).1;have hol:(Q9 w.st t).length<=5:=(Qkm w.st t ht).2;generalize Q9 w.st t=old at*;generalize Q2 many=dep at*;generalize Qw w t leaves many=res at*;refine kH fun gvs=>?_
 refine Qa 6 (h:=?_)
 repeat' first|refine kS ?_|refine qS (Qq2 rfl rfl rfl (by omega) (by simp;omega) hE0) ?_|refine Qet Ty.h rfl Ty.h (hb:=?_) (hcell:=?_) (kk:=?_)|refine QA [0,1,2,3,4] c2 cK (k:=kX ?_)|refine kU ?_|fail
 ·exact Qdq l0
 ·simp;omega
 refine QdI [15,11,4,5,8,9,3,12,13,14,1000000] [0,1,2,3,4,5,7,8,9,10] (env':=[(15,.d (dI ((0+1:Nat):Int))),(11,.d (dI dep)),(4,.ptr 5 0 0),(5,.d (.pd [dI t.root.pat,dI t.root.birth,dI t.root.size,dI t.root.sum,dI t.root.level,dI t.depth,dI t.many])),(8,.ptr 6 0 0),(9,.ptr 7 0 0),(3,.d (dI many)),(12,.d (tPtrs old)),(13,.osl 8 1 0 l0.length),(14,.osl 9 0 0 0),(1000000,.gh (gS g w) gvs)])
  (H':=hS g w++[.row 0 (rowS g w),.row 0 zSt,.row 0 zTr,.arr 1 5 31 (l0.map rPtr),.arr 0 5 31 []]) (h:=?_)
 clear hlo hE0 hE1 c1 c2
 refine Qo (fun m st=> ∃(k gl:Nat) (wk:Pl.Sto) (l stays:List Pl.Ptr),k<=dep/\m=dep -k/\AA (Qv w t l0 dep k=(wk,l,stays,true))/\AA (wk.W (N+4*k)/\wk.gone=w.gone/\(∀p∈l,Pl.ptrOk p=true)/\(k=0->l.length=many)/\(k≠0->l.length<=4))/\l.length<=16/\stays.length<=4*k/\
  st=⟨145,[(15,.d (dI ((k+1:Nat):Int))),(11,.d (dI dep)),(4,.ptr 5 0 0),(5,.d (.pd [dI t.root.pat,dI t.root.birth,dI t.root.size,dI t.root.sum,dI t.root.level,dI t.depth,dI t.many])),(8,.ptr 6 0 0),(9,.ptr 7 0 0),(3,.d (dI many)),(12,.d (tPtrs old)),(13,.osl 8 gl 0 l.length),(14,.osl 9 stays.length 0 stays.length),(1000000,.gh (gS g w) gvs)],
   hS g wk++[.row 0 (rowS g wk),.row 0 zSt,.row 0 zTr,.arr gl 5 31 (l.map rPtr),.arr stays.length 5 31 (stays.map rPtr)]⟩) [15,11,4,5,8,9,3,12,13,14,1000000] 10 dep
  ⟨0,1,w,l0,[],by omega,rfl,Pm.hid rfl,Pm.hid ⟨hw,rfl,hlk.out,fun _=>hl0,fun h=>absurd rfl h⟩,by omega,by simp,rfl⟩ (round:=?_)
 rintro m st ⟨k,gl,wk,l,stays,hk,rfl,hL,hF,hll,hsl,rfl⟩;simp only[hS,A4,A5]
 repeat refine kG ?_
 cases q1:decide (((k+1:Nat):Int)<=(dep:Int))
 ·have hkd:k=dep:=by simp at q1;omega
  subst hkd;obtain⟨hWk,hgk,hlk1,_,_⟩:=hF.out;have hd2:=hdep.out.1;have hres:AA (res=(wk.freeL (QaQ old stays),⟨l.getD 0 Pl.hole,k,many⟩,true)):=Pm.hid (by rw[hd.out,hL.out];simp);have z4:wk.gone.length=w.gone.length:=by rw[hgk]
  clear hd hL hF hdep hlk hl0;refine Qa 9 (h:=?_);refine Qa 8 (h:=?_);have hTs:(stays.map rPtr).take stays.length=stays.map rPtr:=A0 (by simp);have hTl:(l.map rPtr).take l.length=l.map rPtr:=A0 (by simp);rw[hTs,hTl]
  repeat refine kA ?_
  refine Qo (fun m st=> ∃(i g':Nat) (wi:Pl.Sto),i<=old.length/\m=old.length -i/\AA (wi=wk.freeL (QaQ (old.take i) stays))/\AA (wi.W (N+4*k+i))/\(g<g'∨g'=g/\wi.gone.length=w.gone.length)/\
   st=⟨145,[(22,.d (dI i)),(11,.d (dI k)),(4,.ptr 5 0 0),(8,.ptr 6 0 0),(9,.ptr 7 0 0),(3,.d (dI many)),(12,.d (tPtrs old)),(13,.d (tPtrs l)),(14,.d (tPtrs stays)),(1000000,.gh (gS g w) gvs)],
    hS g' wi++[.row 0 (rowS g' wi),.row 0 zSt,.row 0 zTr]⟩) [22,11,4,8,9,3,12,13,14,1000000] 8 old.length
   ⟨0,g,wk,by omega,rfl,Pm.hid rfl,Pm.hid hWk,.inr ⟨rfl,z4⟩,rfl⟩ (round:=?_)
  rintro m st ⟨i,g',wi,hi,rfl,hwi,hWi,hgi,rfl⟩;simp only[hS,A4,A5]
  repeat refine kG ?_
  cases q4:decide ((i:Int)<(old.length:Int))
  ·have hio:i=old.length:=by simp at q4;omega
   have hw2:=hwi.out;rw[hio,A0 (AC _)] at hw2;have hW:=hWi.out;have v0:wi.rows.length=w.rows.length:=by rw[hW.rows,hw.rows]
   have v1:wi.refs.length=w.refs.length:=by rw[hW.refs,hw.refs]
   have v2:wi.last.length=w.last.length:=by rw[hW.last,hw.last]
   have hres2:AA (res=(wi,⟨l.getD 0 Pl.hole,k,many⟩,true)):=Pm.hid (by rw[hres.out,<-hw2]);clear hw2 hwi hWi hres hold hW;cases l with
   |nil=>
    repeat' first|refine kS ?_|(show AWP _ (.region 36 _ _) _ _;refine(Qa 8 (h:=Fg.awp_drawF (id:=36) [1,2,3,4] [5,6] ?_)))|refine kU ?_|fail
    all_goals first|(rcases hgi with hgi|⟨rfl,hgi⟩<;>(refine QN 5 (hx:=?_);rw[hres2.out];refine⟨_,?_,rfl,rfl⟩;intro h;cases h))
   |cons x0 l=>
    have hr0:((x0::l).map rPtr)[(0:Int).toNat]? =some (rPtr x0):=rfl
    repeat' first|refine kS ?_|refine qS (QcV Ty.h rfl Ty.h rfl rfl rfl (by simp) hr0) ?_|(show AWP _ (.region 36 _ _) _ _;refine(Qa 8 (h:=Fg.awp_drawF (id:=36) [1,2,3,4] [5,6] ?_)))|refine kU ?_|refine kV ?_ ?_<;>intro q|fail
    all_goals first|exfalso;have:=of_decide_eq_false q;omega|(rcases hgi with hgi|⟨rfl,hgi⟩<;>(refine QN 5 (hx:=?_);rw[hres2.out];refine⟨_,?_,rfl,rfl⟩;intro h;cases h))
  have hi2:i<old.length:=by simp at q4;omega
  obtain⟨x,hx⟩: ∃x,old[i]? =some x:=⟨_,A1 hi2⟩;have hr:=Qt (f:=rPtr) hx;have hxo:=hold.out x (A3 hx);have hW:=hWi.out;have cf:=eFree2 g' wi (N+4*k+i) (by omega) hW x hxo;have hWf:=hW.free hxo
  have hun:AA (QaQ (old.take (i+1)) stays=QaQ (old.take i) stays++(if stays.contains x then [] else [x])):=Pm.hid (by
   unfold QaQ;rw[A2,hx,List.filter_append]
   congr 1
   by_cases h:x∈stays<;>simp[h])
  have hF2:AA (wk.freeL (QaQ (old.take (i+1)) stays)=if stays.contains x then wi else wi.free x):=Pm.hid (by
   rw[hun.out,hwi.out]
   cases h:stays.contains x<;>simp[Pl.Sto.freeL])
  clear hun hx;generalize wi.free x=wf at*
  repeat refine kA ?_
  refine Qo (fun m st=> ∃j:Nat,j<=stays.length/\m=stays.length -j/\
   st=⟨145,[(24,.d (dI j)),(23,.d (dB ((stays.take j).contains x))),(22,.d (dI i)),(11,.d (dI k)),(4,.ptr 5 0 0),(8,.ptr 6 0 0),(9,.ptr 7 0 0),(3,.d (dI many)),(12,.d (tPtrs old)),(13,.d (tPtrs l)),(14,.d (tPtrs stays)),(1000000,.gh (gS g w) gvs)],
    hS g' wi++[.row 0 (rowS g' wi),.row 0 zSt,.row 0 zTr]⟩) [24,23,22,11,4,8,9,3,12,13,14,1000000] 8 stays.length
   ⟨0,by omega,rfl,rfl⟩ (round:=?_)
  rintro m st ⟨j,hj,rfl,rfl⟩;simp only[hS,A4,A5]
  repeat refine kG ?_
  cases q5:decide ((j:Int)<(stays.length:Int))
  ·have hjs:j=stays.length:=by simp at q5;omega
   rw[hjs,A0 (AC _)];cases hkp:stays.contains x
   ·rw[hkp] at hF2
    simp only[A7,if_false] at hF2
    repeat' first|refine kS ?_|refine qD (iy hr) ?_|(show AWP _ (.region 32 _ _) _ _;refine(Fg.awp_drawF (id:=32) [] [5,6] ?_))|(refine QeL [0,1,2,3,4] cf cK (k:=?_);rintro _ _ ⟨g2,hg2,rfl,rfl⟩;refine QkA (k:=?_))|refine kU ?_|fail
    all_goals first|refine Qh (old.length -(i+1)) (by omega) ⟨i+1,g2,wf,by omega,rfl,Pm.hid hF2.out.symm,Pm.hid hWf,(by rcases hgi with h1|⟨h1,h2⟩<;>rcases hg2 with h3|⟨h3,h4⟩<;>first|(left;omega)|(right;exact⟨by omega,by omega⟩)),?_⟩;simp[keepE,go_sem];done
   ·rw[hkp] at hF2
    simp only[if_true] at hF2
    repeat refine kA ?_
    all_goals first|refine Qh (old.length -(i+1)) (by omega) ⟨i+1,g',wi,by omega,rfl,Pm.hid hF2.out.symm,Pm.hid (hW.le (by omega)),hgi,?_⟩;simp[keepE,go_sem];done
  have hj2:j<stays.length:=by simp at q5;omega
  obtain⟨y,hy⟩: ∃y,stays[j]? =some y:=⟨_,A1 hj2⟩;have hry:=Qt (f:=rPtr) hy
  have hT2:AA ((stays.take (j+1)).contains x=((stays.take j).contains x||decide (y=x))):=Pm.hid (by
   rw[A2,hy]
   by_cases h2:y=x
   ·subst h2;simp
   ·have h3: ¬x=y:=fun h=>h2 h.symm
    simp[h2,h3])
  clear hy cf hF2 hwi hWi hres;generalize (stays.take j).contains x=kb at*
  cases kb<;>(
   repeat' first|refine kS ?_|refine qD (iy hry) ?_|refine qD (iy hr) ?_|refine qD (Qly rfl rfl) ?_|refine kU ?_|fail
   all_goals first
    |(refine Qh (stays.length -(j+1)) (by omega) ⟨j+1,by omega,rfl,?_⟩;rw[hT2.out];simp[keepE,go_sem];done))
 have hk1:k+1<=dep:=by simp at q1;omega
 have hd2:=hdep.out.1;obtain⟨hWk,hgk,hlk1,hlk2,hlk3⟩:=hF.out;have c3:=eOld g wk (N+4*k) hWk t dep (k+1:Nat);have ho1:AA (((k+1:Nat):Int)≠dep->(QL wk.st t dep (k+1:Nat)).length=4):=Pm.hid (QsH _ _ _ _);have ho2:=QsG wk.st t dep (k+1:Nat);have ho3:AA (∀p∈QL wk.st t dep (k+1:Nat),Pl.ptrOk p=true):=Pm.hid (Qqk _ _ _ _ ht)
 have hLk:AA (Qv w t l0 dep (k+1)=((Qz wk (Q3 l) (k+1:Nat) (QL wk.st t dep (k+1:Nat)) ((Q3 l).length/4)).1,(Qz wk (Q3 l) (k+1:Nat) (QL wk.st t dep (k+1:Nat)) ((Q3 l).length/4)).2.1,
  stays++(Qz wk (Q3 l) (k+1:Nat) (QL wk.st t dep (k+1:Nat)) ((Q3 l).length/4)).2.2.1,(Qz wk (Q3 l) (k+1:Nat) (QL wk.st t dep (k+1:Nat)) ((Q3 l).length/4)).2.2.2)):=Pm.hid (by
   simp only[Qv];rw[if_pos (by rw[hL.out]),hL.out])
 generalize QL wk.st t dep (k+1:Nat)=was at*
 repeat' first|refine kS ?_|refine QA [0,1,2,3,4] c3 cK (k:=kX ?_)|refine kU ?_|fail
 clear c3
 refine Qo (fun m st=> ∃(j gl':Nat) (l':List Pl.Ptr),j<=(4 -l.length%4)%4/\m=(4 -l.length%4)%4 -j/\AA (l'=l++AF j Pl.hole)/\l'.length=l.length+j/\
  st=⟨145,[(15,.d (dI ((k+1:Nat):Int))),(11,.d (dI dep)),(4,.ptr 5 0 0),(5,.d (.pd [dI t.root.pat,dI t.root.birth,dI t.root.size,dI t.root.sum,dI t.root.level,dI t.depth,dI t.many])),(8,.ptr 6 0 0),(9,.ptr 7 0 0),(3,.d (dI many)),(12,.d (tPtrs old)),(13,.osl 8 gl' 0 l'.length),(14,.osl 9 stays.length 0 stays.length),(16,.d (tPtrs was)),(17,.osl 10 0 0 0),(1000000,.gh (gS g w) gvs)],
   hS g wk++[.row 0 (rowS g wk),.row 0 zSt,.row 0 zTr,.arr gl' 5 31 (l'.map rPtr),.arr stays.length 5 31 (stays.map rPtr),.arr 0 5 31 []]⟩) [15,11,4,5,8,9,3,12,13,14,16,17,1000000] 11 ((4 -l.length%4)%4)
  ⟨0,gl,l,by omega,rfl,Pm.hid (by simp),by omega,rfl⟩ (round:=?_)
 rintro m st ⟨j,gl',l',hj,rfl,hP,hpl,rfl⟩;simp only[hS,A4,A5]
 repeat refine kG ?_
 repeat' first|refine kS ?_|refine qS (Qgs rfl rfl (by omega) (by omega)) ?_|refine QV Ty.h rfl Ty.h (hb:=?_) (kk:=?_)|refine kU ?_|refine kV ?_ ?_<;>intro q|fail
 all_goals first|simp;omega|refine Qh ((4 -l.length%4)%4 -(j+1)) (by have:=bne_iff_ne.1 q;omega) ⟨j+1,gl'+1,l'++[Pl.hole],by have:=bne_iff_ne.1 q;omega,rfl,Pm.hid (by rw[hP.out,List.append_assoc,List.replicate_succ']),by simp;omega,?_⟩;simp[keepE,go_sem,Pl.hole];done|skip
 have hjp:j=(4 -l.length%4)%4:=by have:=bne_eq_false_iff_eq.1 q;omega
 have hl4:Q3 l=l':=by rw[hP.out,hjp];rfl
 have hl44:l'.length=4*(l'.length/4):=by have:=bne_eq_false_iff_eq.1 q;omega
 have hlow:AA (∀p∈l',Pl.ptrOk p=true):=Pm.hid fun p hp=>by
  rw[hP.out] at hp;rcases AE.1 hp with hp|hp
  ·exact hlk1 p hp
  ·rw[(List.mem_replicate.1 hp).2];exact QdA
 have hwl:l'.length/4<=was.length:=by
  by_cases h:((k+1:Nat):Int)=dep
  ·have hk4:l.length<=4:=by
    by_cases h0:k=0
    ·have:=hlk2 h0;have:=hdep.out.2 (by omega);omega
    ·exact hlk3 h0
   omega
  ·have:=ho1.out h;omega
 rw[hl4] at hLk;clear hP hl4 hpl hj hjp q hL ho1 hdep hlk1 hlk2 hlk3;refine Qa 8 (h:=?_);have hT:(l'.map rPtr).take l'.length=l'.map rPtr:=A0 (by simp);rw[hT]
 refine Qo (fun m st=> ∃(i:Nat) (wi:Pl.Sto) (next st2:List Pl.Ptr),i<=l'.length/4/\m=l'.length/4 -i/\AA (Qz wk l' (k+1:Nat) was i=(wi,next,st2,true))/\AA (wi.W (N+4*k+i)/\wi.gone=w.gone/\ ∀p∈next,Pl.ptrOk p=true)/\next.length=i/\st2.length<=i/\
  st=⟨145,[(18,.d (dI i)),(15,.d (dI ((k+1:Nat):Int))),(11,.d (dI dep)),(4,.ptr 5 0 0),(5,.d (.pd [dI t.root.pat,dI t.root.birth,dI t.root.size,dI t.root.sum,dI t.root.level,dI t.depth,dI t.many])),(8,.ptr 6 0 0),(9,.ptr 7 0 0),(3,.d (dI many)),(12,.d (tPtrs old)),(13,.d (tPtrs l')),(14,.osl 9 (stays++st2).length 0 (stays++st2).length),(16,.d (tPtrs was)),(17,.osl 10 next.length 0 next.length),(1000000,.gh (gS g w) gvs)],
   hS g wi++[.row 0 (rowS g wi),.row 0 zSt,.row 0 zTr,.arr (gl'+1) 5 31 [],.arr (stays++st2).length 5 31 ((stays++st2).map rPtr),.arr next.length 5 31 (next.map rPtr)]⟩) [18,15,11,4,5,8,9,3,12,13,14,16,17,1000000] 11 (l'.length/4)
  ⟨0,wk,[],[],by omega,rfl,Pm.hid rfl,Pm.hid ⟨hWk,hgk,by simp⟩,rfl,by simp,by simp[keepE,go_sem]⟩ (round:=?_)
 rintro m st ⟨i,wi,next,st2,hi,rfl,hFi,hGi,hnl,hs2,rfl⟩;simp only[hS,A4,A5]
 repeat refine kG ?_
 cases q3:decide (((i:Int)*4)<(l'.length:Int))
 ·have hic:i=l'.length/4:=by simp at q3;omega
  rw[<-hic,hFi.out] at hLk;obtain⟨g1,g2,g3⟩:=hGi.out;have g4:=g1.le (M:=N+4*(k+1)) (by omega);have hnl4:next.length<=4:=by omega
  clear hFi hGi hF hT hwl ho2 ho3 hlow
  repeat' first|refine kS ?_|refine qD (Qdu rfl rfl (by omega)) ?_|refine qS (Qdu rfl rfl (by omega)) ?_|refine kU ?_|refine kV ?_ ?_<;>intro q|fail
  all_goals first|exact absurd (‹decide ((i:Int)*4<(l'.length:Int))=true›.symm.trans q3) (by decide)|refine Qef (dep -(k+1)) [15,11,4,5,8,9,3,12,13,14,1000000] [0,1,2,3,4,5,6,7,10,9] (by omega) ⟨k+1,next.length,wi,next,stays++st2,hk1,rfl,hLk,Pm.hid ⟨g4,g2,g3,fun h=>by omega,fun _=>hnl4⟩,by omega,by simp;omega,rfl⟩
 have hic:i<l'.length/4:=by simp at q3;omega
 obtain⟨g1,g2,g3⟩:=hGi.out;obtain⟨x,hx⟩: ∃x,was[i]? =some x:=⟨_,A1 (by omega)⟩;have hxo:Pl.ptrOk x=true:=ho3.out x (A3 hx);have hr:=Qt (f:=rPtr) hx;have hxd:was.getD i Pl.hole=x:=by rw[List.getD_eq_getElem?_getD,hx];rfl
 have hch:((l'.map rPtr).take (((i:Int)+1)*4).toNat).drop ((i:Int)*4).toNat=((l'.take (4*(i+1))).drop (4*i)).map rPtr:=by
  have h1:(((i:Int)+1)*4).toNat=4*(i+1):=by omega
  have h2:((i:Int)*4).toNat=4*i:=by omega
  rw[h1,h2,List.map_drop,AG]
 have hcl:((l'.take (4*(i+1))).drop (4*i)).length=4:=by rw[List.length_drop,A8];omega
 have hy:=Qrj g1 (l:=(l'.take (4*(i+1))).drop (4*i)) (level:=((k+1:Nat):Int)) hxo
 have hstep:AA (Qz wk l' (k+1:Nat) was (i+1)=if(Qai wi ((l'.take (4*(i+1))).drop (4*i)) (k+1:Nat) x).2.2 then((Qai wi ((l'.take (4*(i+1))).drop (4*i)) (k+1:Nat) x).1,next++[(Qai wi ((l'.take (4*(i+1))).drop (4*i)) (k+1:Nat) x).2.1],st2++(if(Qai wi ((l'.take (4*(i+1))).drop (4*i)) (k+1:Nat) x).2.1=x then [x] else []),true) else(wi,next,st2,false)):=Pm.hid (by
  simp only[Qz,hFi.out,hxd,if_true])
 have cF:=(eFan g wi (N+4*k+i) (by omega) g1 ((l'.take (4*(i+1))).drop (4*i)) hcl ((k+1:Nat):Int) x hxo).arg (l:=[oS g wi,.d (tPtrs ((l'.take (4*(i+1))).drop (4*i))),.d (dI ((k+1:Nat):Int)),.d (dPtr x)]);have hyf:=QoX (w:=wi) (l:=(l'.take (4*(i+1))).drop (4*i)) (level:=((k+1:Nat):Int)) (old:=x);generalize (l'.take (4*(i+1))).drop (4*i)=ch at*;generalize Qai wi ch ((k+1:Nat):Int) x=y at*;obtain⟨w2,p2,ok2⟩:=y;simp only at hy hstep cF hyf;obtain⟨y1,y2,y3⟩:=hy;have z3:w2.gone.length=wi.gone.length:=by rw[y3]
 have hno: ∀p∈next++[p2],Pl.ptrOk p=true:=fun p hp=>by
  rcases AE.1 hp with hp|hp
  ·exact g3 p hp
  ·rw[List.mem_singleton.1 hp];exact y2
 cases ok2
 ·obtain rfl:w2=wi:=hyf rfl
  have hs2:Qz wk l' (k+1:Nat) was (l'.length/4)=(w2,next,st2,false):=by
   have h1:=hstep.out;simp only[A7,if_false] at h1;have h2:=Qj8 (show(Qz wk l' (k+1:Nat) was (i+1)).2.2.2=false by rw[h1]) (l'.length/4 -(i+1));rw[AB (by omega:i+1<=l'.length/4),h1] at h2;exact h2
  have hs3:Qv w t l0 dep dep=(w2,next,stays++st2,false):=by
   have h1:=hLk.out;rw[hs2] at h1;have h2:=Qq8 (show(Qv w t l0 dep (k+1)).2.2.2=false by rw[h1]) (dep -(k+1));rw[AB hk1,h1] at h2;exact h2
  have hres:AA (res=(w2,⟨Pl.hole,0,0⟩,false)):=Pm.hid (by rw[hd.out,hs3];simp);have z4:w2.gone.length=w.gone.length:=by rw[g2]
  have v0:w2.rows.length=w.rows.length:=by rw[g1.rows,hw.rows]
  have v1:w2.refs.length=w.refs.length:=by rw[g1.refs,hw.refs]
  have v2:w2.last.length=w.last.length:=by rw[g1.last,hw.last]
  clear hs2 hs3 hd hLk hstep hFi hGi hF hno hT hlow ho3 hyf y3 z3
  repeat' first|refine kS ?_|refine qD (Qdu rfl rfl (by omega)) ?_|refine qS (Qdu rfl rfl (by omega)) ?_|refine qD (Qjw rfl rfl rfl rfl (by omega) (by omega) (by simp;omega) hch) ?_|refine qD (iy hr) ?_|(show AWP _ (.region 15 _ _) _ _;refine(Fk.awp_drawG (id:=15) [14,16,17,18,19] [13,20,21] [(18,.row 0 zSt),(19,.row 0 zPt)] [] 13 77 (.tup [oS g w2,.d (dPtr p2),.d (dB false)]) ?_))|refine(Fk.aw_fltA 11 ?_)|refine(Fk.aw_fltA 12 ?_)|refine(Fk.aw_planC0 (by rfl) (by kernel_rfl) rfl ?_)|refine Fk.aw_callM [0,1,2,3,4] cF cK (k:=kY ?_)|refine kU ?_|refine kV ?_ ?_<;>intro q|fail
  all_goals first|exact absurd (‹decide ((i:Int)*4<(l'.length:Int))=false›.symm.trans q3) (by decide)|refine QN 5 (hx:=?_);rw[hres.out];exact⟨g,fun _=>rfl,rfl,rfl⟩
 simp only[if_true] at hstep
 repeat' first|refine kS ?_|refine qD (Qdu rfl rfl (by omega)) ?_|refine qS (Qdu rfl rfl (by omega)) ?_|refine qD (Qjw rfl rfl rfl rfl (by omega) (by omega) (by simp;omega) hch) ?_|refine qD (iy hr) ?_|(show AWP _ (.region 15 _ _) _ _;refine(Fk.awp_drawG (id:=15) [14,16,17,18,19] [13,20,21] [(18,.row 0 zSt),(19,.row 0 zPt)] [] 13 77 (.tup [oS g w2,.d (dPtr p2),.d (dB true)]) ?_))|refine(Fk.aw_fltA 11 ?_)|refine(Fk.aw_fltA 12 ?_)|refine(Fk.aw_planC0 (by rfl) (by kernel_rfl) rfl ?_)|refine Fk.aw_callM [0,1,2,3,4] cF cK (k:=kY ?_)|refine qD (Qly rfl rfl) ?_|refine QV Ty.h rfl Ty.h (hb:=?_) (kk:=?_)|refine kU ?_|refine kV ?_ ?_<;>intro q|fail
 all_goals first
  |(simp;omega)
  |exact absurd (‹decide ((i:Int)*4<(l'.length:Int))=false›.symm.trans q3) (by decide)
  |(have hpx:p2=x:=of_decide_eq_true ‹decide (p2=x)=true›
    refine Qh (l'.length/4 -(i+1)) (by omega) ⟨i+1,w2,next++[p2],st2++[x],by omega,rfl,Pm.hid (by rw[hstep.out,if_pos hpx]),Pm.hid ⟨y1,y3.trans g2,hno⟩,by simp;omega,by simp;omega,?_⟩
    subst hpx;simp[keepE,go_sem,AH];done)
  |(have hpx: ¬p2=x:=of_decide_eq_false ‹decide (p2=x)=false›
    refine Qh (l'.length/4 -(i+1)) (by omega) ⟨i+1,w2,next++[p2],st2,by omega,rfl,Pm.hid (by rw[hstep.out,if_neg hpx,List.append_nil]),Pm.hid ⟨y1,y3.trans g2,hno⟩,by simp;omega,by omega,?_⟩
    simp[keepE,go_sem,AH];done)
