/- Of fsk_card; no condition. -/
import Derived.Test.YtfmnpmhadmcdkaaGreatDoorS18
set_option linter.all false
set_option maxRecDepth 100000
set_option maxHeartbeats 8000000
open Bool renaming false_eq_true->AE,and_eq_true->AI
open Go renaming TypeId->AG,Operand->AN
open Go.Proofs.Tryz renaming prog->A3
open Go.RowKit renaming Hid->AC
open List renaming getElem?_eq_getElem->A0,mem_of_getElem?->A1,take_of_length_le->A2,take_add_one->A4,cons_append->A5,nil_append->A6,replicate->A7,take_length->A8,getD_eq_getElem?_getD->A9,all_append->AA,length_map->AB,getElem?_map->AF,length_cons->AH,length_take->AJ,map_append->AK,length_nil->AL,mem_append->AM,range->AO,map_take->AP,map->AR
open Nat renaming add_sub_cancel'->AD,add_assoc->AQ,le_refl->AS
open Option.some renaming inj->AT
namespace Go.Proofs.YtfmnpmhadmcdkaaGreatDoor
noncomputable section
section
open Go.RowKit
namespace Aw
variable{p:Pl.Ptr}
section
variable{P:Program}{ops:Array Oper}{Q:Exit->St->Prop}{l:List Oper}{n:Nat}{d:Tmp}{ty:AG}{pos:String}{after:Array Edge}{gd:Option (Nat×Bool)}{env:List (Nat×AV)}{H H' H1:List Blk}{f:FuncId}{xs:Array AN}{tys:Array AG}{ds:List D}{x x':AV}{w:Pl.Sto}{N k0 k1 k2 k3 k4 g:Nat}{T0 T1 T2 T3 T4:AG}{u:AN}{us:List AN}
def QdK(h:Does P f (.d (dSt w.st)::ds.map .d) [] [] x H1)(hf: ∀args w,(callFunc f args).run P w= .ok (.enter f args) w)(hw:w.W N)(hx:x.flatA=true)(hH1:H1.all Blk.flat=true)(hxs:xs.toList=u::us:=by rfl)
 (hu:aval env u= .agg [.osl k0 1 0 64,.osl k1 1 0 64,.osl k2 1 0 64,.d (dI w.txg),.osl k3 g 0 w.gone.length,.d (dI 0),.osl k4 1 0 0,.d (dB w.same)]:=by rfl)
 (h0:H[k0]? =some (.arr 1 1 T0 (rS w.rows)):=by rfl) (h1:H[k1]? =some (.arr 1 1 T1 (rI w.refs)):=by rfl) (h2:H[k2]? =some (.arr 1 1 T2 (rI w.last)):=by rfl) (h3:H[k3]? =some (.arr g 5 T3 (w.gone.map rPtr)):=by rfl) (h4:H[k4]? =some (.arr 1 5 T4 []):=by rfl)
 (hd:allD (us.map (aval env))=some ds:=by rfl) (hwk:D.weakL ds=ds:=by rfl)
 (hX: ∀R:AV->Prop,R x'->R (x.ren (· +H.length)):=by intro R hR;simp only[AV.ren,AV.renL,List.length_cons,List.length_nil,Nat.reduceAdd,Nat.zero_add];exact hR) (hH: ∀R:List Blk->Prop,R H'->R (H++H1):=by intro R hR;simp only[List.cons_append,List.nil_append];exact hR)
 (hw2:awanted ops env ⟨some d,.call ⟨.value (.func f),xs,tys⟩,ty,pos,after,gd⟩=some true:=by rfl) (hdn:Nat.blt d n=true:=by rfl) (hg:gdOk ops n ⟨some d,.call ⟨.value (.func f),xs,tys⟩,ty,pos,after,gd⟩=true:=by rfl)
 (k:ASeq P ops Q l ⟨n,(d,x')::env,H'⟩):ASeq P ops Q (⟨some d,.call ⟨.value (.func f),xs,tys⟩,ty,pos,after,gd⟩::l) ⟨n,env,H⟩:=by
 refine QkB (ds:=dSt w.st::ds) h hf ?_ hx hH1 hX hH hw2 hdn hg k;rw[hxs,List.map_cons,QnA hd,hu];show(AV.ice H 4 _).weak::D.weakL ds=_;rw[QqH hw h0 h1 h2 h3 h4,hwk]
end
attribute [local irreducible] ASeq ADraw AWP Loc AStep Fg.PlanF Fg.Flts EndR
def dWide(s:Pm.Store)(hg:QP s)(t:Pl.Tree)(ht:Qx t):Does A3 93 [.d (dSt s),.d (dTree t)] [] [] (.osl 0 2 0 16) [.arr 2 5 31 ((Qe s t).map rPtr)]:=by
 have hc:=Qja s hg t ht.lo ht.hi;have hl:=QfY s ht.hi;have hw:=Pm.hid (Qe.eq_def s t);generalize QI s t=lb at*;obtain⟨l,ok⟩:=lb;simp only at hl hw;have hh:=Qhd (16 -l.length) (by omega);have e:((16 -l.length:Nat):Int)=16 -(l.length:Int):=by omega
 rw[e] at hh;refine kL ?hpin fun gvs=>?_
 case hpin=>intro i C hC;simp at hC
 simp only[parA,gslot,Nat.zero_add];refine kR ?_;refine Qa 0 (h:=?_);refine Qa 1 (h:=?_)
 repeat' first|refine kS ?_|refine Qet Ty.h rfl Ty.h (hb:=?_) (hcell:=?_) (kk:=?_)|refine kU ?_|fail
 ·exact Qdq l
 ·simp;omega
 ·exact Qdq _
 ·simp;omega
 have e2:([]++AR (fun p:Pl.Ptr=>[dI p.pat,dI p.birth,dI p.size,dI p.sum,dI p.level]) l++AR (fun p:Pl.Ptr=>[dI p.pat,dI p.birth,dI p.size,dI p.sum,dI p.level]) (A7 (16 -l.length) Pl.hole))=(Qe s t).map rPtr:=by rw[hw.out,AK];rfl
 have e3:([]++AR (fun p:Pl.Ptr=>[dI p.pat,dI p.birth,dI p.size,dI p.sum,dI p.level]) l).length+(A7 (16 -l.length) Pl.hole).length=16:=by simp;omega
 rw[e2,e3];refine QdI [4,1000000] [2] (env':=[(4,.osl 0 2 0 16),(1000000,.gh [] gvs)]) (H':=[.arr 2 5 31 ((Qe s t).map rPtr)]) (h:=?_);exact QdB (hx:=rfl) (hH:=rfl)
def ePtrD(rows:List (List D))(hr:RdOk rows)(p:Nat)(hp:p<=800000):
 DoesE A3 92 [.ptr 0 0 0] [rdR rows p] [.ptr 0 0 0] (fun x H=> ∃(a b c d e:Int) (p':Nat),p'<=p+40/\x= .d (.agg [dI a,dI b,dI c,dI d,dI e])/\H=[rdR rows p']):=by
 have c1:=fun a b l (s:List UInt8) (h:s.length<=10)=>aPtrOf a b l ([116]++s) (by unfold Pm.big;rw[List.length_append];simp only[AH,AL];omega)
 refine kH fun gvs=>?_
 repeat' first|refine kS ?_|(refine aw_pk 0 hr (kk:=?_);intro v hv)|(refine QA [0] (eText rows hr _ ?_ 9 (by decide)) cK (k:=?_);omega;rintro _ _ ⟨s,p1,hs,hp1,rfl,rfl⟩;refine Qd1 (k:=?_))|(refine QA [0] (eRow rows hr _ ?_) cK (k:=?_);omega;rintro _ _ ⟨z,hz,rfl,rfl⟩;refine Qd1 (k:=?_))|refine qS (Qd0 Ty.h rfl Ty.h) ?_|refine qS (QcX (l:=[116]) rfl rfl (by simp only[AH,AL];omega)) ?_|refine qS (Qdh cK (c1 _ _ _ _ (by omega)) rfl) ?_|refine qS (QcV Ty.h rfl Ty.h rfl rfl rfl (by omega) (QdT (f:=fun z=>[dI z]) [0,-1,900,901] 0 (n:=4) rfl (by omega))) ?_|refine qS (QcV Ty.h rfl Ty.h rfl rfl rfl (by omega) (QdT (f:=fun z=>[dI z]) [0,-1,128,129] 0 (n:=4) rfl (by omega))) ?_|refine qS (QcV Ty.h rfl Ty.h rfl rfl rfl (by omega) (QdT (f:=fun z=>[dI z]) [-1,99460728,99460729,0] 0 (n:=4) rfl (by omega))) ?_|refine qS (QcV Ty.h rfl Ty.h rfl rfl rfl (by omega) (QdT (f:=fun z=>[dI z]) [-1,3,2] 0 (n:=3) rfl (by omega))) ?_|refine kU ?_|refine kV ?_ ?_<;>intro q|fail
 all_goals first|refine Q1 1 (hx:=?_);exact⟨_,_,_,_,_,_,by omega,rfl,rfl⟩
def QaZ(c:UInt8):Bool:=decide (97<=c.toNat)&&decide (c.toNat<=122)
theorem Qlq(s:List UInt8):QF s=(s.all QaZ&&Pl.inR s.length 1 4):=by
 unfold QF Pl.inR;rw[Bool.and_assoc]
 congr 2
 ·grind
 grind
def aNameOk(s:List UInt8)(hs:s.length<=Pm.big):Pure A3 194 [dS s] (dB (QF s)):=by
 simp only[Pm.big] at hs;have hd:=Pm.hid (Qlq s);have c:=al6In s.length 1 4;refine kB ?_
 repeat refine kA ?_
 refine Qo (fun m st=> ∃k:Nat,k<=s.length/\m=s.length -k/\AC ((s.take k).all QaZ=true)/\st=⟨23,[(3,.d (dI k)),(0,.d (dS s))],[]⟩) [3,0] 0 s.length ⟨0,by omega,rfl,Pm.hid rfl,rfl⟩ (round:=?_);rintro m st ⟨k,hk,rfl,hA,rfl⟩
 repeat refine kG ?_
 cases q3:decide ((k:Int)<(s.length:Int))
 ·repeat refine kA ?_
  refine Qb (hx:=?_);have:k=s.length:=by simp at q3;omega
  have h:=hA.out;rw[this,A8] at h;rw[hd.out,h];rfl
 have hk2:k<s.length:=by simp at q3;omega
 obtain⟨x,hx⟩: ∃x,s[k]? =some x:=⟨_,A0 hk2⟩;have hx':s[(k:Int).toNat]? =some x:=hx;have T:AC (97<=x.toNat->x.toNat<=122->(s.take (k+1)).all QaZ=true):=fun h1 h2=>by rw[A4,hx,AA,hA.out];simp[QaZ,h1,h2]
 have F:AC ((x.toNat<97∨122<x.toNat)->QF s=false):=fun h=>by
  rw[hd.out];have:s.all QaZ=false:=by rw[List.all_eq_false];exact⟨x,A1 hx,by simp[QaZ];omega⟩
  rw[this];rfl
 clear hx hA hd
 repeat' first|refine kS ?_|refine qS (QdX Ty.h rfl rfl rfl (by omega) hx') ?_|refine kU ?_|refine kV ?_ ?_<;>intro q|fail
 all_goals simp only[decide_eq_true_eq,decide_eq_false_iff_not] at*
 all_goals first|exact Qh (s.length -(k+1)) (by omega) ⟨k+1,by omega,rfl,Pm.hid (T.out (by omega) (by omega)),rfl⟩|refine Qb (hx:=?_);rw[F.out (by omega)]
abbrev dEnts(l:List Qq):D:= .sl false 2 (l.map rEnt)
abbrev tEnts(l:List Qq):D:= .sl true 2 (l.map rEnt)
theorem Qpy(l:List Qq)(hl:l.length<=Pm.big)(hs: ∀e∈l,e.1.length<=Pm.big):Pure A3 253 [dEnts l] (dB (Qab l)):=by
 simp only[Pm.big] at hl;have hd:AC (Qab l=((AO l.length).all (QaD l)&&decide (l.length<=12))):=Pm.hid rfl;refine kB ?_
 repeat refine kA ?_
 refine Qo (fun m st=> ∃k:Nat,k<=l.length/\m=l.length -k/\AC ((AO k).all (QaD l)=true)/\st=⟨47,[(3,.d (dI k)),(0,.d (dEnts l))],[]⟩) [3,0] 0 l.length ⟨0,by omega,rfl,Pm.hid rfl,rfl⟩ (round:=?_);rintro m st ⟨k,hk,rfl,hA,rfl⟩
 repeat refine kG ?_
 cases q3:decide ((k:Int)<(l.length:Int))
 ·repeat refine kA ?_
  refine Qb (hx:=?_);have:k=l.length:=by simp at q3;omega
  have h:=hA.out;rw[this] at h;rw[hd.out,h];refine congrArg dB ?_;simp;omega
 have hk2:k<l.length:=by simp at q3;omega
 obtain⟨x,hx⟩: ∃x,l[k]? =some x:=⟨_,A0 hk2⟩;have hr:=Qt (f:=rEnt) hx;obtain⟨y,hy⟩: ∃y,l[k -1]? =some y:=⟨_,A0 (by omega)⟩
 have hr2:AC (0<k->(l.map rEnt)[((k:Int) -1).toNat]? =some (rEnt y)):=fun h=>by
  rw[show((k:Int) -1).toNat=k -1 by omega,AF,hy];rfl
 have he:AC (QaD l k=(QF x.1&&Pl.inR x.2 1 15&&(decide (k=0)||Op.bytesLess y.1 x.1))):=Pm.hid (by
  unfold QaD;simp only[A9,hx,hy,Option.getD_some])
 have T:AC (QaD l k=true->(AO (k+1)).all (QaD l)=true):=fun h=>Pl.Qdd (p:=QaD l) hA.out h
 have F:AC (QaD l k=false->Qab l=false):=fun h=>by
  rw[hd.out,Pl.Qda (p:=QaD l) hk2 h];rfl
 have c1:=aNameOk x.1 (hs x (A1 hx));have c2:=al6In x.2 1 15;rw[he.out] at T F;clear hx hy hA hd he;generalize QF x.1=o1 at*;generalize Pl.inR x.2 1 15=o2 at*
 repeat' first|refine kS ?_|refine qD (iy hr) ?_|refine qD (QcV Ty.h rfl Ty.h rfl rfl rfl (by simp only[decide_eq_true_eq] at*;omega) (hr2.out (by simp only[decide_eq_true_eq] at*;omega))) ?_|refine qD (Qjv rfl rfl) ?_|refine kU ?_|refine kV ?_ ?_<;>intro q|fail
 all_goals clear c1 c2 hr hr2
 all_goals simp only[decide_eq_true_eq,decide_eq_false_iff_not] at*
 all_goals first|refine Qh (l.length -(k+1)) (by omega) ⟨k+1,by omega,rfl,Pm.hid (T.out ?_),rfl⟩;clear T F;simp_all;try omega|refine Qb (hx:=?_);rw[F.out ?_];clear T F;simp_all;try omega
theorem pg_put{x:List UInt8}(h:QB x=(p,true)):Pl.ptrPut p=x/\Pl.ptrOk p=true:=by
 unfold QB at h;split at h
 ·rename_i hx
  obtain⟨h1,_⟩:=Prod.mk.inj h;have:=Classical.choose_spec hx;rw[h1] at this;exact⟨this.2,this.1⟩
 grind
theorem bFanGet(s:List UInt8)(hs:s.length<=1000000):Pure A3 186 [dS s] (.tup [tPtrs (QaF s).1,dB (QaF s).2]):=by
 have c0:=bSplit s 44 (by omega);have hW:=Qe2 44 s;have hj:=Pm.hid (QqD 44 s);have hfan:AC (QaF s=if((Pl.cutB 44 s).map QB).all (·.2)&&(((Pl.cutB 44 s).map QB).length==4)&&((Pl.cutB 44 s).map QB).any (fun q=> !Pl.ptrHole q.1) then(((Pl.cutB 44 s).map QB).map (·.1),true) else([],false)):=Pm.hid rfl;generalize Pl.cutB 44 s=l at*;refine kB ?_
 repeat refine kA ?_
 refine QeR 4 5 31 (h:=?_)
 refine Qo (fun m st=> ∃(k g:Nat) (out:List Pl.Ptr),k<=l.length/\m=l.length -k/\out.length=k/\k<=4/\AC (out=((l.map QB).take k).map (·.1))/\AC (((l.map QB).take k).all (·.2)=true)/\AC (out.map Pl.ptrPut=l.take k/\out.all Pl.ptrOk=true)/\
  st=⟨48,[(14,.d (dI k)),(13,.d (dI l.length)),(12,.d (tStrs l)),(4,.osl 0 g 0 out.length),(0,.d (dS s))],[.arr g 5 31 (out.map rPtr)]⟩) [14,13,12,4,0] 1 l.length ⟨0,0,[],by omega,rfl,rfl,by omega,Pm.hid rfl,Pm.hid (by simp),Pm.hid ⟨rfl,rfl⟩,rfl⟩ (round:=?_)
 rintro m st ⟨k,g,out,hk,rfl,hlen,hk4,hO,hA,hP,rfl⟩
 repeat refine kG ?_
 cases q3:decide ((k:Int)<(l.length:Int))
 ·have hk3:k=l.length:=by simp at q3;omega
  have c1:=(bFanPut out (by omega)).arg (l:=[tPtrs out]);have hlm:(l.map QB).length=k:=by rw[AB,hk3]
  have ho:=hO.out;rw[<-hlm,A8] at ho;have ha:=hA.out;rw[<-hlm,A8] at ha;have hp1:=hP.out.1;rw[hk3,A8] at hp1;have hany:(l.map QB).any (fun q=> !Pl.ptrHole q.1)=out.any (fun p=> !Pl.ptrHole p):=by rw[ho];simp only[List.any_map];rfl
  have hpd:=Pm.hid (QX.eq_def out)
  have e2:QX out=if out.length=4/\out.any (fun p=> !Pl.ptrHole p)=true then(s,true) else([],false):=by
   rw[hpd.out,hp1,hj.out]
   by_cases h:out.length=4/\out.any (fun p=> !Pl.ptrHole p)=true
   ·rw[if_pos h,if_pos ⟨h.1,h.2,hP.out.2⟩]
   ·rw[if_neg h,if_neg (fun x=>h ⟨x.1,x.2.1⟩)]
  have e1:QaF s=if out.length=4/\out.any (fun p=> !Pl.ptrHole p)=true then(out,true) else([],false):=by
   rw[hfan.out,ha,hany,hlm,<-hlen,<-ho]
   by_cases h:out.length=4/\out.any (fun p=> !Pl.ptrHole p)=true
   ·rw[if_pos h,if_pos]
    rw[h.1,h.2];rfl
   ·rw[if_neg h,if_neg]
    intro x;simp only[AI,beq_iff_eq,true_and] at x;exact h x
  have hres:AC (QaF s=if(QX out).2=true/\(QX out).1=s then(out,true) else([],false)):=Pm.hid (by
   rw[e1,e2]
   by_cases h:out.length=4/\out.any (fun p=> !Pl.ptrHole p)=true
   ·rw[if_pos h,if_pos h,if_pos ⟨rfl,rfl⟩]
   ·rw[if_neg h,if_neg h,if_neg (by simp)])
  clear e1 e2;clear hO hA hP ho ha hp1 hany hpd hfan hj c0;generalize QX out=r at*;obtain⟨again,fine⟩:=r
  repeat refine kG ?_
  refine Qeo 0 (h:=?_)
  repeat' first|refine kA ?_|refine kV ?_ ?_<;>intro q|fail
  all_goals first|refine Qed 2 true 5 (h:=?_);refine Qb (hx:=?_);rw[hres.out,if_neg (by simp_all)];rfl|refine Qed 2 true 5 (h:=?_);refine Qb (hx:=?_);rw[hres.out,if_neg (by simp_all)]|refine Qb (hx:=?_);rw[hres.out,if_pos (by simp_all)]
 have hk2:k<l.length:=by simp at q3;omega
 obtain⟨x,hx⟩: ∃x,l[k]? =some x:=⟨_,A0 hk2⟩;have hr:=Qt (f:=fun s=>[dS s]) hx;have hx3:x.length<=4294967280:=by have:=hW.2 x (A1 hx);omega
 obtain⟨p,ok,hp⟩: ∃p ok,QB x=(p,ok):=⟨_,_,rfl⟩;have hg:=bPtrGet x hx3;rw[hp] at hg;have hl:(l.map QB)[k]? =some (p,ok):=by rw[AF,hx];simp[hp]
 have hst:(l.map QB).take (k+1)=(l.map QB).take k++[(p,ok)]:=by rw[A4,hl];rfl
 have F:AC (ok=false∨k=4->QaF s=([],false)):=Pm.hid fun e=>by
  rw[hfan.out,if_neg];intro h;simp only[AI,beq_iff_eq,AB] at h;rcases e with e|e
  ·have:=List.all_eq_true.1 h.1.1 _ (A1 hl)
   rw[e] at this;cases this
  ·omega
 have T1:AC (out++[p]=((l.map QB).take (k+1)).map (·.1)):=Pm.hid (by rw[hst,hO.out];simp)
 have T2:AC (ok=true->((l.map QB).take (k+1)).all (·.2)=true/\(out++[p]).map Pl.ptrPut=l.take (k+1)/\(out++[p]).all Pl.ptrOk=true):=Pm.hid fun e=>by
  subst e;have hpp:=pg_put hp;refine⟨by rw[hst,AA,hA.out];rfl,by rw[AK,hP.out.1,A4,hx];simp[hpp.1],by rw[AA,hP.out.2];simp[hpp.2]⟩
 clear hx hp hl hst hO hA hP hfan hj c0;obtain⟨p1,p2,p3,p4,p5⟩:=p
 repeat' first|refine kS ?_|refine qS (iy hr) ?_|refine QV Ty.h rfl Ty.h (hb:=?_) (kk:=?_)|refine kU ?_|refine kV ?_ ?_<;>intro q|fail
 all_goals first
  |(simp;omega)
  |(refine Qh (l.length -(k+1)) (by omega) ⟨k+1,g+1,out++[⟨p1,p2,p3,p4,p5⟩],by omega,rfl,by simp[hlen],?_,Pm.hid T1.out,Pm.hid (T2.out (by simpa using ‹(!ok)=false›)).1,Pm.hid (T2.out (by simpa using ‹(!ok)=false›)).2,?_⟩
    ·simp only[beq_eq_false_iff_ne] at*;omega
    ·simp[keepE,go_sem])
  |(refine Qed 2 true 5 (h:=?_)
    refine Qb (hx:=?_)
    rw[F.out (by first|exact .inl (by simpa using q)|exact .inr (by simp only[beq_iff_eq] at q;omega))];rfl)
def bDepth(n:Int):Pure A3 115 [dI n] (dI (if n<=1 then 0 else if n<=4 then 1 else 2)):=by
 refine kB ?_
 repeat' first|refine kA ?_|refine kV ?_ ?_<;>intro q|fail
 all_goals exact Qb (hx:=congrArg dI (by simp at*;split<;>(try split)<;>omega))
def Qcc(s:Pm.Store)(p:Pl.Ptr)(level:Int):List Pl.Ptr×Bool:=
 if Pl.ptrHole p then(A7 4 Pl.hole,true) else
 if(Qf s.1 p).2=true/\p.level=level then((QaF (Qf s.1 p).1).1,(QaF (Qf s.1 p).1).2&& !(QaF (Qf s.1 p).1).1.any (fun q=>decide (p.birth<q.birth))) else([],false)
theorem QmM{s:Pm.Store}{level:Int}(h1:Pl.ptrOk p=true)(h2:p.birth<=s.2.2.1):(Qcc s p level).2=(Qi s p level).2/\((Qi s p level).2=true->Qcc s p level=Qi s p level):=by grind [Qcc,Qi]
theorem bFanOf(s:Pm.Store)(hg:QP s)(p:Pl.Ptr)(hp:Pl.ptrHole p=false->Pl.ptrOk p=true)(level:Int):Pure A3 116 [.pd (rSt s),dPtr p,dI level] (.tup [tPtrs (Qcc s p level).1,dB (Qcc s p level).2]):=by
 have hd:=Pm.hid (Qcc.eq_def s p level);have c1:=Qep p;cases h1:Pl.ptrHole p;rotate_left
 ·rw[h1] at c1 hd
  refine kE ?_;refine Qa 0 (h:=?_)
  repeat refine kA ?_
  (refine Qa 1 (h:=?_);refine Qb (hx:=?_))
  rw[hd.out];rfl
 have c2:=bRead s hg p hp;have hlen:=Qh4 s hg p;rw[h1] at c1 hd;generalize Qf s.1 p=r at*;obtain⟨tx,ok⟩:=r;simp only at hlen hd;have c3:=bFanGet tx (by omega);have hfl:=Qku tx;generalize QaF tx=fb at*;obtain⟨l,fine⟩:=fb;simp only at hfl hd;have c4:=Qk4 l (by omega) 188 (.pd (rPtr p)) (fun q=>decide (p.birth<q.birth)) Tryz.call188 fun q _=>bFanOf1 p q
 generalize l.any (fun q=>decide (p.birth<q.birth))=any at*;refine kE ?_;refine Qa 0 (h:=?_);have c5:=c4.arg (l:=[.d (tPtrs l),.fn (.func 188) [.d (.pd (rPtr p))]])
 repeat' first|refine kS ?_|refine qS (Qex rfl) ?_|refine qS (Qeq cK c5 rfl rfl) ?_|refine kU ?_|refine kV ?_ ?_<;>intro q|fail
 all_goals first
  |(refine Qed 6 true 5 (h:=?_)
    refine Qb (hx:=?_)
    rw[hd.out,if_neg (by simp),if_neg (by simp_all)];rfl)
  |(refine Qb (hx:=?_)
    rw[hd.out,if_neg (by simp),if_pos (by simp_all)];simp_all)
end Aw
end
section
open Go.RowKit
namespace Aw
variable{Q0:AV->List Blk->Prop}{H0:List Blk}{gl:List AV}{f:FuncId}{P:Program}{p old:Pl.Ptr}{after:Array Edge}{pos:String}{ty T:AG}{N:Nat}{w:Pl.Sto}{j:Int}{κ':IntKind}{rows':List (List D)}{u y:AN}{E:TyF}
theorem Qp6{σ:Sg}{S:Nat->Prop}{H:List Blk}{w:World}{x:AV}{v:Value}(h:Rel σ S H w x v):Rel σ S H w x.weak1 v:=by
 cases x with
 |d x=>cases h with|d _ _ h=>exact .d _ _ h.weak
 |_=>exact h
theorem DoesE.arg{l l':List AV}(h:DoesE P f l' H0 gl Q0)(ha:l.map AV.weak1=l':=by rfl):DoesE P f l H0 gl Q0:=by
 intro B σ S w cargs gvs h1 h2 h3 h4 h5 h6;subst ha;refine h B σ S w cargs gvs h1 h2 (by grind) (fun i d v hd hv=>?_) h5 h6
 grind [Qp6]
theorem Qly{dst:Option Tmp}{T':AG}{gd:Option (Nat×Bool)}{env:List (Nat×AV)}{H:List Blk}{x y:Tmp}{q:Pl.Ptr}(hx:aval env (.tmp x)= .d (dPtr p))(hy:aval env (.tmp y)= .d (dPtr q)):
 Loc A3 ⟨dst,.binOp .eql 31 (.tmp x) (.tmp y) T',ty,pos,after,gd⟩ env H (.d (dB (decide (p=q)))) none:=
 loc_bin' (X:= .agg #[.int .i64 p.pat,.int .i64 p.birth,.int .i64 p.size,.int .i64 p.sum,.int .i64 p.level]) (Y:= .agg #[.int .i64 q.pat,.int .i64 q.birth,.int .i64 q.size,.int .i64 q.sum,.int .i64 q.level]) (by rw[hx];rfl) (by rw[hy];rfl) fun w=>by
  obtain⟨p1,p2,p3,p4,p5⟩:=p;obtain⟨q1,q2,q3,q4,q5⟩:=q
  go_simp
  grind
def Qz(w:Pl.Sto)(l:List Pl.Ptr)(level:Int)(was:List Pl.Ptr):Nat->Pl.Sto×List Pl.Ptr×List Pl.Ptr×Bool
 |0=>(w,[],[],true)
 |i+1=>if(Qz w l level was i).2.2.2 then
   (if(Qai (Qz w l level was i).1 ((l.take (4*(i+1))).drop (4*i)) level (was.getD i Pl.hole)).2.2 then
     ((Qai (Qz w l level was i).1 ((l.take (4*(i+1))).drop (4*i)) level (was.getD i Pl.hole)).1,(Qz w l level was i).2.1++[(Qai (Qz w l level was i).1 ((l.take (4*(i+1))).drop (4*i)) level (was.getD i Pl.hole)).2.1],
       (Qz w l level was i).2.2.1++(if(Qai (Qz w l level was i).1 ((l.take (4*(i+1))).drop (4*i)) level (was.getD i Pl.hole)).2.1=was.getD i Pl.hole then [was.getD i Pl.hole] else []),true)
   else((Qz w l level was i).1,(Qz w l level was i).2.1,(Qz w l level was i).2.2.1,false)) else Qz w l level was i
def Q3(l:List Pl.Ptr):List Pl.Ptr:=l++A7 ((4 -l.length%4)%4) Pl.hole
def Qv(w:Pl.Sto)(t:Pl.Tree)(l:List Pl.Ptr)(depth:Int):Nat->Pl.Sto×List Pl.Ptr×List Pl.Ptr×Bool
 |0=>(w,l,[],true)
 |k+1=>if(Qv w t l depth k).2.2.2 then
   ((Qz (Qv w t l depth k).1 (Q3 (Qv w t l depth k).2.1) (k+1:Nat) (QL (Qv w t l depth k).1.st t depth (k+1:Nat)) ((Q3 (Qv w t l depth k).2.1).length/4)).1,
    (Qz (Qv w t l depth k).1 (Q3 (Qv w t l depth k).2.1) (k+1:Nat) (QL (Qv w t l depth k).1.st t depth (k+1:Nat)) ((Q3 (Qv w t l depth k).2.1).length/4)).2.1,
    (Qv w t l depth k).2.2.1++(Qz (Qv w t l depth k).1 (Q3 (Qv w t l depth k).2.1) (k+1:Nat) (QL (Qv w t l depth k).1.st t depth (k+1:Nat)) ((Q3 (Qv w t l depth k).2.1).length/4)).2.2.1,
    (Qz (Qv w t l depth k).1 (Q3 (Qv w t l depth k).2.1) (k+1:Nat) (QL (Qv w t l depth k).1.st t depth (k+1:Nat)) ((Q3 (Qv w t l depth k).2.1).length/4)).2.2.2) else Qv w t l depth k
def QaQ(old stays:List Pl.Ptr):List Pl.Ptr:=old.filter fun p=> !stays.contains p
def Q2(many:Nat):Nat:=if many<=1 then 0 else if many<=4 then 1 else 2
def Qw(w:Pl.Sto)(t:Pl.Tree)(leaves:List Pl.Ptr)(many:Nat):Pl.Sto×Pl.Tree×Bool:=
 if(Qv w t (leaves.take many) (Q2 many) (Q2 many)).2.2.2 then
  ((Qv w t (leaves.take many) (Q2 many) (Q2 many)).1.freeL (QaQ (Q9 w.st t) (Qv w t (leaves.take many) (Q2 many) (Q2 many)).2.2.1),⟨(Qv w t (leaves.take many) (Q2 many) (Q2 many)).2.1.getD 0 Pl.hole,Q2 many,many⟩,true)
 else((Qv w t (leaves.take many) (Q2 many) (Q2 many)).1,⟨Pl.hole,0,0⟩,false)
theorem Qrj(h:w.W N){l:List Pl.Ptr}{level:Int}(ho:Pl.ptrOk old=true):(Qai w l level old).1.W (N+1)/\Pl.ptrOk (Qai w l level old).2.1=true/\(Qai w l level old).1.gone=w.gone:=by
 unfold Qai;split
 ·exact⟨h.le (by omega),QdA,rfl⟩
 ·split
  ·exact⟨h.le (by omega),ho,rfl⟩
  ·have:=h.write (QX l).1 level
   grind [Pl.QeT]
theorem Qgy{l:List Pl.Ptr}(h: ∀p∈l,Pl.ptrOk p=true)(i:Nat):Pl.ptrOk (l.getD i Pl.hole)=true:=by grind [QdA]
theorem Qri{w:Pl.Sto}{N:Nat}(h:w.W N){l:List Pl.Ptr}{level:Int}{was:List Pl.Ptr}(ho: ∀p∈was,Pl.ptrOk p=true): ∀i,(Qz w l level was i).1.W (N+i)/\(Qz w l level was i).1.gone=w.gone/\
 (∀p∈(Qz w l level was i).2.1,Pl.ptrOk p=true)/\(Qz w l level was i).2.1.length<=i/\(Qz w l level was i).2.2.1.length<=i
 |0=>⟨h,rfl,by simp[Qz],by simp[Qz],by simp[Qz]⟩
 |i+1=>by
  obtain⟨h1,h2,h3,h4,h5⟩:=Qri h (l:=l) (level:=level) ho i;have:=Qrj h1 (l:=(l.take (4*(i+1))).drop (4*i)) (level:=level) (Qgy ho i);simp only[Qz];generalize Qz w l level was i=r at*;generalize Qai r.1 ((l.take (4*(i+1))).drop (4*i)) level (was.getD i Pl.hole)=y at*;split
  ·split
   ·grind
   ·exact⟨h1.le (by omega),h2,h3,by grind,by grind⟩
  ·exact⟨h1.le (by omega),h2,h3,by omega,by omega⟩
theorem Qj8{l:List Pl.Ptr}{level:Int}{was:List Pl.Ptr}{i:Nat}(h:(Qz w l level was i).2.2.2=false): ∀j,Qz w l level was (i+j)=Qz w l level was i
 :=by intro l;induction l<;>grind [Qz]
theorem Qq8{t:Pl.Tree}{l:List Pl.Ptr}{depth:Int}{k:Nat}(h:(Qv w t l depth k).2.2.2=false): ∀j,Qv w t l depth (k+j)=Qv w t l depth k
 :=by intro l;induction l<;>grind [Qv]
theorem QoX{l:List Pl.Ptr}{level:Int}(h:(Qai w l level old).2.2=false):(Qai w l level old).1=w:=by
 unfold Qai at h⊢;split
 ·rfl
 ·rename_i h1
  rw[if_neg h1] at h;split
  ·rfl
  ·rename_i h2
   rw[if_neg h2] at h;unfold Pl.Sto.write at h⊢;cases hs:w.seek (QX l).1 level with
   |none=>rfl
   |some a=>
    grind [Pl.Sto.put]
theorem Qkm(s:Pm.Store)(t:Pl.Tree)(ht:Pl.ptrOk t.root=true):(∀p∈Q9 s t,Pl.ptrOk p=true)/\(Q9 s t).length<=5:=by grind [Q9,QhU,QeK]
def DoesE.pins{args:List AV}(h:DoesE P f args H0 gl Q0):DoesE P f args H0 gl fun x H1=>Q0 x H1/\ ∀i C,H0[i]? =some C-> ∃C',H1[i]? =some C'/\pin1 gl i C C':=
 fun B σ S w cargs gvs h1 h2 h3 h4 h5 h6=>(h B σ S w cargs gvs h1 h2 h3 h4 h5 h6).mono fun _ _ ⟨x,H1,h7,h8,h9⟩=>⟨x,H1,⟨h7,h8⟩,h8,h9⟩
theorem eFree2(g:Nat)(w:Pl.Sto)(N:Nat)(hN:N<=1000000)(hw:w.W N)(p:Pl.Ptr)(hp:Pl.ptrOk p=true):
 DoesE A3 97 [oS g w,.d (dPtr p)] (hS g w) (gS g w) (fun x H=> ∃g',(g<g'∨g'=g/\(w.free p).gone.length=w.gone.length)/\x=oS g' (w.free p)/\H=hS g' (w.free p)):=by
 intro B σ S w0 cargs gvs h1 h2 h3 h4 h5 h6;refine((eFree g w N hN hw p hp).pins B σ S w0 cargs gvs h1 h2 h3 h4 h5 h6).mono ?_;rintro _ _ ⟨x,H1,⟨⟨g',rfl,rfl⟩,h7⟩,h8,h9⟩;refine⟨_,_,⟨g',?_,rfl,rfl⟩,h8,h9⟩;obtain⟨C',e1,e2⟩:=h7 3 _ rfl;obtain rfl:=AT e1;obtain⟨_,_,e3|⟨e3,e4,_⟩⟩:=e2
 ·omega
 grind
attribute [local irreducible] ASeq ADraw AWP Loc AStep Fg.PlanF Fg.Flts EndR Fk.PlanF Fk.Flts Fk.AStepM Fk.Grew Fk.Gs
theorem Qjw{dst:Option Tmp}{gd:Option (Nat×Bool)}{env:List (Nat×AV)}{H:List Blk}{e:AG}{F:TyF}{x:AN}{rows:List (List D)}{κ:IntKind}{i:Int} [hT:Ty P T F](he:F.elem=some e) [hE:Ty P e E](hu:aval env u= .d (.sl true E.size rows))(hx:aval env x= .d (.v (.int κ i)))(hy:aval env y= .d (.v (.int κ' j)))
 (h0:0<=i) (h1:i<=j) (h2:j<=rows.length) (hq:(rows.take j.toNat).drop i.toNat=rows'):Loc P ⟨dst,.slice T u (some x) (some y) none,ty,pos,after,gd⟩ env H (.d (.sl true E.size rows')) none:=by grind [Qlu]
theorem Qq2{dst:Option Tmp}{gd:Option (Nat×Bool)}{env:List (Nat×AV)}{H:List Blk}{e:AG}{F:TyF}{rows:List (List D)} [hT:Ty P T F](he:F.elem=some e) [hE:Ty P e E](hu:aval env u= .d (.sl true E.size rows))(hy:aval env y= .d (.v (.int κ' j)))
 (h0:0<=j) (h2:j<=rows.length) (hq:rows.take j.toNat=rows'):Loc P ⟨dst,.slice T u none (some y) none,ty,pos,after,gd⟩ env H (.d (.sl true E.size rows')) none:=by grind [QfX]
theorem fan_four'{s:List UInt8}(h:(QaF s).2=true):(QaF s).1.length=4:=by grind [QaF]
theorem QjI{s:Pm.Store}{n:Int}(h:(Qi s p n).2=true):(Qi s p n).1.length=4:=by grind [Qi,fan_four']
theorem QsH(s:Pm.Store)(t:Pl.Tree)(depth level:Int):level≠depth->(QL s t depth level).length=4:=by grind [QL,QjI]
theorem QsG(s:Pm.Store)(t:Pl.Tree)(depth level:Int):1<=(QL s t depth level).length/\(QL s t depth level).length<=4:=by grind [QL,QjI]
theorem Qqk(s:Pm.Store)(t:Pl.Tree)(depth level:Int)(ht:Pl.ptrOk t.root=true): ∀p∈QL s t depth level,Pl.ptrOk p=true:=by grind [QdA,QL,QhU]
abbrev zSt:List AV:=[.d (.v (.slice none 0 0)),.d (.v (.slice none 0 0)),.d (.v (.slice none 0 0)),.d (.v (.int .i64 0)),.d (.v (.slice none 0 0)),.d (.v (.int .i64 0)),.d (.v (.slice none 0 0)),.d (.v (.bool false))]
abbrev zTr:List AV:=[.d (.v (.int .i64 0)),.d (.v (.int .i64 0)),.d (.v (.int .i64 0)),.d (.v (.int .i64 0)),.d (.v (.int .i64 0)),.d (.v (.int .i64 0)),.d (.v (.int .i64 0))]
abbrev zPt:List AV:=[.d (.v (.int .i64 0)),.d (.v (.int .i64 0)),.d (.v (.int .i64 0)),.d (.v (.int .i64 0)),.d (.v (.int .i64 0))]
def Qef(n1:Nat)(ts ks:List Nat){I:Nat->St->Prop}{ts0:List Nat}{m n:Nat}{env env':List (Nat×AV)}{H H':List Blk}(h1:n1<n)(h2:I n1 ⟨N,env',H'⟩)(he:keepE env ts=renE (pk ks) env':=by rfl)(hks:ks.map (fun k=>H[k]?)=(H'.map (Blk.ren (pk ks))).map some:=by rfl)(hnd:ks.Nodup:=by decide)
 (h3:envLt H'.length env'=true:=by rfl) (h4:H'.all (Blk.lt H'.length)=true:=by rfl):Back I ts0 m n ⟨N,env,H⟩:=⟨_,n1,QkL ts ks he hks hnd h3 h4,h1,h2⟩
abbrev rowS(g:Nat)(w:Pl.Sto):List AV:=[.osl 0 1 0 64,.osl 1 1 0 64,.osl 2 1 0 64,.d (dI w.txg),.osl 3 g 0 w.gone.length,.d (dI 0),.osl 4 1 0 0,.d (dB w.same)]
theorem eLay(g:Nat)(w:Pl.Sto)(N:Nat)(hN:N<=900000)(hw:w.W N)(t:Pl.Tree)(ht:Pl.ptrOk t.root=true)(leaves:List Pl.Ptr)(hl:leaves.length=16)(hlo: ∀p∈leaves,Pl.ptrOk p=true)(many:Nat)(hm:many<=16):
 DoesE A3 96 [oS g w,.d (dTree t),.d (tPtrs leaves),.d (dI many)] (hS g w) (gS g w) (fun x H=> ∃g',((Qw w t leaves many).2.2=false->g'=g)/\x= .tup [oS g' (Qw w t leaves many).1,.d (dTree (Qw w t leaves many).2.1),.d (dB (Qw w t leaves many).2.2)]/\H=hS g' (Qw w t leaves many).1):=by
 have c1:Pure A3 163 [dI many] (dI (Q2 many)):=by
  have:=QkG many
  have e:(if(many:Int)<=1 then 0 else if(many:Int)<=4 then 1 else 2)=((Q2 many:Nat):Int):=by
   unfold Q2;split<;>split<;>(try split)<;>(try split)<;>first|rfl|omega
  rw[e] at this;exact this
 have c2:=eInner g w N hw t;have hd:=Pm.hid (Qw.eq_def w t leaves many);have hdep:AC (Q2 many<=2/\(Q2 many=1->many<=4)):=Pm.hid (by unfold Q2;split<;>(try split)<;>omega);have hE0:(leaves.map rPtr).take (many:Int).toNat=(leaves.take many).map rPtr:=by rw[Int.toNat_natCast,AP]
 have hl0:(leaves.take many).length=many:=by rw[AJ];omega
 have hE1:([]:List (List D)).length+((leaves.take many).map rPtr).length=many:=by rw[AB,hl0];simp
 have hlk:AC (∀p∈leaves.take many,Pl.ptrOk p=true):=Pm.hid fun p hp=>hlo p (List.mem_of_mem_take hp)
 generalize leaves.take many=l0 at*;have hold:AC (∀p∈Q9 w.st t,Pl.ptrOk p=true):=Pm.hid (Qkm w.st t ht).1;have hol:(Q9 w.st t).length<=5:=(Qkm w.st t ht).2;generalize Q9 w.st t=old at*;generalize Q2 many=dep at*;generalize Qw w t leaves many=res at*;refine kH fun gvs=>?_
 refine Qa 6 (h:=?_)
 repeat' first|refine kS ?_|refine qS (Qq2 rfl rfl rfl (by omega) (by simp;omega) hE0) ?_|refine Qet Ty.h rfl Ty.h (hb:=?_) (hcell:=?_) (kk:=?_)|refine QA [0,1,2,3,4] c2 cK (k:=kX ?_)|refine kU ?_|fail
 ·exact Qdq l0
 ·simp;omega
 refine QdI [15,11,4,5,8,9,3,12,13,14,1000000] [0,1,2,3,4,5,7,8,9,10] (env':=[(15,.d (dI ((0+1:Nat):Int))),(11,.d (dI dep)),(4,.ptr 5 0 0),(5,.d (.pd [dI t.root.pat,dI t.root.birth,dI t.root.size,dI t.root.sum,dI t.root.level,dI t.depth,dI t.many])),(8,.ptr 6 0 0),(9,.ptr 7 0 0),(3,.d (dI many)),(12,.d (tPtrs old)),(13,.osl 8 1 0 l0.length),(14,.osl 9 0 0 0),(1000000,.gh (gS g w) gvs)])
  (H':=hS g w++[.row 0 (rowS g w),.row 0 zSt,.row 0 zTr,.arr 1 5 31 (l0.map rPtr),.arr 0 5 31 []]) (h:=?_)
 clear hlo hE0 hE1 c1 c2
 refine Qo (fun m st=> ∃(k gl:Nat) (wk:Pl.Sto) (l stays:List Pl.Ptr),k<=dep/\m=dep -k/\AC (Qv w t l0 dep k=(wk,l,stays,true))/\AC (wk.W (N+4*k)/\wk.gone=w.gone/\(∀p∈l,Pl.ptrOk p=true)/\(k=0->l.length=many)/\(k≠0->l.length<=4))/\l.length<=16/\stays.length<=4*k/\
  st=⟨145,[(15,.d (dI ((k+1:Nat):Int))),(11,.d (dI dep)),(4,.ptr 5 0 0),(5,.d (.pd [dI t.root.pat,dI t.root.birth,dI t.root.size,dI t.root.sum,dI t.root.level,dI t.depth,dI t.many])),(8,.ptr 6 0 0),(9,.ptr 7 0 0),(3,.d (dI many)),(12,.d (tPtrs old)),(13,.osl 8 gl 0 l.length),(14,.osl 9 stays.length 0 stays.length),(1000000,.gh (gS g w) gvs)],
   hS g wk++[.row 0 (rowS g wk),.row 0 zSt,.row 0 zTr,.arr gl 5 31 (l.map rPtr),.arr stays.length 5 31 (stays.map rPtr)]⟩) [15,11,4,5,8,9,3,12,13,14,1000000] 10 dep
  ⟨0,1,w,l0,[],by omega,rfl,Pm.hid rfl,Pm.hid ⟨hw,rfl,hlk.out,fun _=>hl0,fun h=>absurd rfl h⟩,by omega,by simp,rfl⟩ (round:=?_)
 rintro m st ⟨k,gl,wk,l,stays,hk,rfl,hL,hF,hll,hsl,rfl⟩;simp only[hS,A5,A6]
 repeat refine kG ?_
 cases q1:decide (((k+1:Nat):Int)<=(dep:Int))
 ·have hkd:k=dep:=by simp at q1;omega
  subst hkd;obtain⟨hWk,hgk,hlk1,_,_⟩:=hF.out;have hd2:=hdep.out.1;have hres:AC (res=(wk.freeL (QaQ old stays),⟨l.getD 0 Pl.hole,k,many⟩,true)):=Pm.hid (by rw[hd.out,hL.out];simp);have z4:wk.gone.length=w.gone.length:=by rw[hgk]
  clear hd hL hF hdep hlk hl0;refine Qa 9 (h:=?_);refine Qa 8 (h:=?_);have hTs:(stays.map rPtr).take stays.length=stays.map rPtr:=A2 (by simp);have hTl:(l.map rPtr).take l.length=l.map rPtr:=A2 (by simp);rw[hTs,hTl]
  repeat refine kA ?_
  refine Qo (fun m st=> ∃(i g':Nat) (wi:Pl.Sto),i<=old.length/\m=old.length -i/\AC (wi=wk.freeL (QaQ (old.take i) stays))/\AC (wi.W (N+4*k+i))/\(g<g'∨g'=g/\wi.gone.length=w.gone.length)/\
   st=⟨145,[(22,.d (dI i)),(11,.d (dI k)),(4,.ptr 5 0 0),(8,.ptr 6 0 0),(9,.ptr 7 0 0),(3,.d (dI many)),(12,.d (tPtrs old)),(13,.d (tPtrs l)),(14,.d (tPtrs stays)),(1000000,.gh (gS g w) gvs)],
    hS g' wi++[.row 0 (rowS g' wi),.row 0 zSt,.row 0 zTr]⟩) [22,11,4,8,9,3,12,13,14,1000000] 8 old.length
   ⟨0,g,wk,by omega,rfl,Pm.hid rfl,Pm.hid hWk,.inr ⟨rfl,z4⟩,rfl⟩ (round:=?_)
  rintro m st ⟨i,g',wi,hi,rfl,hwi,hWi,hgi,rfl⟩;simp only[hS,A5,A6]
  repeat refine kG ?_
  cases q4:decide ((i:Int)<(old.length:Int))
  ·have hio:i=old.length:=by simp at q4;omega
   have hw2:=hwi.out;rw[hio,A2 (AS _)] at hw2;have hW:=hWi.out;have v0:wi.rows.length=w.rows.length:=by rw[hW.rows,hw.rows]
   have v1:wi.refs.length=w.refs.length:=by rw[hW.refs,hw.refs]
   have v2:wi.last.length=w.last.length:=by rw[hW.last,hw.last]
   have hres2:AC (res=(wi,⟨l.getD 0 Pl.hole,k,many⟩,true)):=Pm.hid (by rw[hres.out,<-hw2]);clear hw2 hwi hWi hres hold hW;cases l with
   |nil=>
    repeat' first|refine kS ?_|(show AWP _ (.region 36 _ _) _ _;refine(Qa 8 (h:=Fg.awp_drawF (id:=36) [1,2,3,4] [5,6] ?_)))|refine kU ?_|fail
    all_goals first|(rcases hgi with hgi|⟨rfl,hgi⟩<;>(refine QN 5 (hx:=?_);rw[hres2.out];refine⟨_,?_,rfl,rfl⟩;intro h;cases h))
   |cons x0 l=>
    have hr0:((x0::l).map rPtr)[(0:Int).toNat]? =some (rPtr x0):=rfl
    repeat' first|refine kS ?_|refine qS (QcV Ty.h rfl Ty.h rfl rfl rfl (by simp) hr0) ?_|(show AWP _ (.region 36 _ _) _ _;refine(Qa 8 (h:=Fg.awp_drawF (id:=36) [1,2,3,4] [5,6] ?_)))|refine kU ?_|refine kV ?_ ?_<;>intro q|fail
    all_goals first|exfalso;have:=of_decide_eq_false q;omega|(rcases hgi with hgi|⟨rfl,hgi⟩<;>(refine QN 5 (hx:=?_);rw[hres2.out];refine⟨_,?_,rfl,rfl⟩;intro h;cases h))
  have hi2:i<old.length:=by simp at q4;omega
  obtain⟨x,hx⟩: ∃x,old[i]? =some x:=⟨_,A0 hi2⟩;have hr:=Qt (f:=rPtr) hx;have hxo:=hold.out x (A1 hx);have hW:=hWi.out;have cf:=eFree2 g' wi (N+4*k+i) (by omega) hW x hxo;have hWf:=hW.free hxo
  have hun:AC (QaQ (old.take (i+1)) stays=QaQ (old.take i) stays++(if stays.contains x then [] else [x])):=Pm.hid (by
   unfold QaQ;rw[A4,hx,List.filter_append]
   congr 1
   by_cases h:x∈stays<;>simp[h])
  have hF2:AC (wk.freeL (QaQ (old.take (i+1)) stays)=if stays.contains x then wi else wi.free x):=Pm.hid (by
   rw[hun.out,hwi.out]
   cases h:stays.contains x<;>simp[Pl.Sto.freeL])
  clear hun hx;generalize wi.free x=wf at*
  repeat refine kA ?_
  refine Qo (fun m st=> ∃j:Nat,j<=stays.length/\m=stays.length -j/\
   st=⟨145,[(24,.d (dI j)),(23,.d (dB ((stays.take j).contains x))),(22,.d (dI i)),(11,.d (dI k)),(4,.ptr 5 0 0),(8,.ptr 6 0 0),(9,.ptr 7 0 0),(3,.d (dI many)),(12,.d (tPtrs old)),(13,.d (tPtrs l)),(14,.d (tPtrs stays)),(1000000,.gh (gS g w) gvs)],
    hS g' wi++[.row 0 (rowS g' wi),.row 0 zSt,.row 0 zTr]⟩) [24,23,22,11,4,8,9,3,12,13,14,1000000] 8 stays.length
   ⟨0,by omega,rfl,rfl⟩ (round:=?_)
  rintro m st ⟨j,hj,rfl,rfl⟩;simp only[hS,A5,A6]
  repeat refine kG ?_
  cases q5:decide ((j:Int)<(stays.length:Int))
  ·have hjs:j=stays.length:=by simp at q5;omega
   rw[hjs,A2 (AS _)];cases hkp:stays.contains x
   ·rw[hkp] at hF2
    simp only[AE,if_false] at hF2
    repeat' first|refine kS ?_|refine qD (iy hr) ?_|(show AWP _ (.region 32 _ _) _ _;refine(Fg.awp_drawF (id:=32) [] [5,6] ?_))|(refine QeL [0,1,2,3,4] cf cK (k:=?_);rintro _ _ ⟨g2,hg2,rfl,rfl⟩;refine QkA (k:=?_))|refine kU ?_|fail
    all_goals first|refine Qh (old.length -(i+1)) (by omega) ⟨i+1,g2,wf,by omega,rfl,Pm.hid hF2.out.symm,Pm.hid hWf,(by rcases hgi with h1|⟨h1,h2⟩<;>rcases hg2 with h3|⟨h3,h4⟩<;>first|(left;omega)|(right;exact⟨by omega,by omega⟩)),?_⟩;simp[keepE,go_sem];done
   ·rw[hkp] at hF2
    simp only[if_true] at hF2
    repeat refine kA ?_
    all_goals first|refine Qh (old.length -(i+1)) (by omega) ⟨i+1,g',wi,by omega,rfl,Pm.hid hF2.out.symm,Pm.hid (hW.le (by omega)),hgi,?_⟩;simp[keepE,go_sem];done
  have hj2:j<stays.length:=by simp at q5;omega
  obtain⟨y,hy⟩: ∃y,stays[j]? =some y:=⟨_,A0 hj2⟩;have hry:=Qt (f:=rPtr) hy
  have hT2:AC ((stays.take (j+1)).contains x=((stays.take j).contains x||decide (y=x))):=Pm.hid (by
   rw[A4,hy]
   by_cases h2:y=x
   ·subst h2;simp
   ·have h3: ¬x=y:=fun h=>h2 h.symm
    simp[h2,h3])
  clear hy cf hF2 hwi hWi hres;generalize (stays.take j).contains x=kb at*
  cases kb<;>(
   repeat' first|refine kS ?_|refine qD (iy hry) ?_|refine qD (iy hr) ?_|refine qD (Qly rfl rfl) ?_|refine kU ?_|fail
   all_goals first
    |(refine Qh (stays.length -(j+1)) (by omega) ⟨j+1,by omega,rfl,?_⟩;rw[hT2.out];simp[keepE,go_sem];done))
 have hk1:k+1<=dep:=by simp at q1;omega
 have hd2:=hdep.out.1;obtain⟨hWk,hgk,hlk1,hlk2,hlk3⟩:=hF.out;have c3:=eOld g wk (N+4*k) hWk t dep (k+1:Nat);have ho1:AC (((k+1:Nat):Int)≠dep->(QL wk.st t dep (k+1:Nat)).length=4):=Pm.hid (QsH _ _ _ _);have ho2:=QsG wk.st t dep (k+1:Nat);have ho3:AC (∀p∈QL wk.st t dep (k+1:Nat),Pl.ptrOk p=true):=Pm.hid (Qqk _ _ _ _ ht)
 have hLk:AC (Qv w t l0 dep (k+1)=((Qz wk (Q3 l) (k+1:Nat) (QL wk.st t dep (k+1:Nat)) ((Q3 l).length/4)).1,(Qz wk (Q3 l) (k+1:Nat) (QL wk.st t dep (k+1:Nat)) ((Q3 l).length/4)).2.1,
  stays++(Qz wk (Q3 l) (k+1:Nat) (QL wk.st t dep (k+1:Nat)) ((Q3 l).length/4)).2.2.1,(Qz wk (Q3 l) (k+1:Nat) (QL wk.st t dep (k+1:Nat)) ((Q3 l).length/4)).2.2.2)):=Pm.hid (by
   simp only[Qv];rw[if_pos (by rw[hL.out]),hL.out])
 generalize QL wk.st t dep (k+1:Nat)=was at*
 repeat' first|refine kS ?_|refine QA [0,1,2,3,4] c3 cK (k:=kX ?_)|refine kU ?_|fail
 clear c3
 refine Qo (fun m st=> ∃(j gl':Nat) (l':List Pl.Ptr),j<=(4 -l.length%4)%4/\m=(4 -l.length%4)%4 -j/\AC (l'=l++A7 j Pl.hole)/\l'.length=l.length+j/\
  st=⟨145,[(15,.d (dI ((k+1:Nat):Int))),(11,.d (dI dep)),(4,.ptr 5 0 0),(5,.d (.pd [dI t.root.pat,dI t.root.birth,dI t.root.size,dI t.root.sum,dI t.root.level,dI t.depth,dI t.many])),(8,.ptr 6 0 0),(9,.ptr 7 0 0),(3,.d (dI many)),(12,.d (tPtrs old)),(13,.osl 8 gl' 0 l'.length),(14,.osl 9 stays.length 0 stays.length),(16,.d (tPtrs was)),(17,.osl 10 0 0 0),(1000000,.gh (gS g w) gvs)],
   hS g wk++[.row 0 (rowS g wk),.row 0 zSt,.row 0 zTr,.arr gl' 5 31 (l'.map rPtr),.arr stays.length 5 31 (stays.map rPtr),.arr 0 5 31 []]⟩) [15,11,4,5,8,9,3,12,13,14,16,17,1000000] 11 ((4 -l.length%4)%4)
  ⟨0,gl,l,by omega,rfl,Pm.hid (by simp),by omega,rfl⟩ (round:=?_)
 rintro m st ⟨j,gl',l',hj,rfl,hP,hpl,rfl⟩;simp only[hS,A5,A6]
 repeat refine kG ?_
 repeat' first|refine kS ?_|refine qS (Qgs rfl rfl (by omega) (by omega)) ?_|refine QV Ty.h rfl Ty.h (hb:=?_) (kk:=?_)|refine kU ?_|refine kV ?_ ?_<;>intro q|fail
 all_goals first|simp;omega|refine Qh ((4 -l.length%4)%4 -(j+1)) (by have:=bne_iff_ne.1 q;omega) ⟨j+1,gl'+1,l'++[Pl.hole],by have:=bne_iff_ne.1 q;omega,rfl,Pm.hid (by rw[hP.out,List.append_assoc,List.replicate_succ']),by simp;omega,?_⟩;simp[keepE,go_sem,Pl.hole];done|skip
 have hjp:j=(4 -l.length%4)%4:=by have:=bne_eq_false_iff_eq.1 q;omega
 have hl4:Q3 l=l':=by rw[hP.out,hjp];rfl
 have hl44:l'.length=4*(l'.length/4):=by have:=bne_eq_false_iff_eq.1 q;omega
 have hlow:AC (∀p∈l',Pl.ptrOk p=true):=Pm.hid fun p hp=>by
  rw[hP.out] at hp;rcases AM.1 hp with hp|hp
  ·exact hlk1 p hp
  ·rw[(List.mem_replicate.1 hp).2];exact QdA
 have hwl:l'.length/4<=was.length:=by
  by_cases h:((k+1:Nat):Int)=dep
  ·have hk4:l.length<=4:=by
    by_cases h0:k=0
    ·have:=hlk2 h0;have:=hdep.out.2 (by omega);omega
    ·exact hlk3 h0
   omega
  ·have:=ho1.out h;omega
 rw[hl4] at hLk;clear hP hl4 hpl hj hjp q hL ho1 hdep hlk1 hlk2 hlk3;refine Qa 8 (h:=?_);have hT:(l'.map rPtr).take l'.length=l'.map rPtr:=A2 (by simp);rw[hT]
 refine Qo (fun m st=> ∃(i:Nat) (wi:Pl.Sto) (next st2:List Pl.Ptr),i<=l'.length/4/\m=l'.length/4 -i/\AC (Qz wk l' (k+1:Nat) was i=(wi,next,st2,true))/\AC (wi.W (N+4*k+i)/\wi.gone=w.gone/\ ∀p∈next,Pl.ptrOk p=true)/\next.length=i/\st2.length<=i/\
  st=⟨145,[(18,.d (dI i)),(15,.d (dI ((k+1:Nat):Int))),(11,.d (dI dep)),(4,.ptr 5 0 0),(5,.d (.pd [dI t.root.pat,dI t.root.birth,dI t.root.size,dI t.root.sum,dI t.root.level,dI t.depth,dI t.many])),(8,.ptr 6 0 0),(9,.ptr 7 0 0),(3,.d (dI many)),(12,.d (tPtrs old)),(13,.d (tPtrs l')),(14,.osl 9 (stays++st2).length 0 (stays++st2).length),(16,.d (tPtrs was)),(17,.osl 10 next.length 0 next.length),(1000000,.gh (gS g w) gvs)],
   hS g wi++[.row 0 (rowS g wi),.row 0 zSt,.row 0 zTr,.arr (gl'+1) 5 31 [],.arr (stays++st2).length 5 31 ((stays++st2).map rPtr),.arr next.length 5 31 (next.map rPtr)]⟩) [18,15,11,4,5,8,9,3,12,13,14,16,17,1000000] 11 (l'.length/4)
  ⟨0,wk,[],[],by omega,rfl,Pm.hid rfl,Pm.hid ⟨hWk,hgk,by simp⟩,rfl,by simp,by simp[keepE,go_sem]⟩ (round:=?_)
 rintro m st ⟨i,wi,next,st2,hi,rfl,hFi,hGi,hnl,hs2,rfl⟩;simp only[hS,A5,A6]
 repeat refine kG ?_
 cases q3:decide (((i:Int)*4)<(l'.length:Int))
 ·have hic:i=l'.length/4:=by simp at q3;omega
  rw[<-hic,hFi.out] at hLk;obtain⟨g1,g2,g3⟩:=hGi.out;have g4:=g1.le (M:=N+4*(k+1)) (by omega);have hnl4:next.length<=4:=by omega
  clear hFi hGi hF hT hwl ho2 ho3 hlow
  repeat' first|refine kS ?_|refine qD (Qdu rfl rfl (by omega)) ?_|refine qS (Qdu rfl rfl (by omega)) ?_|refine kU ?_|refine kV ?_ ?_<;>intro q|fail
  all_goals first|exact absurd (‹decide ((i:Int)*4<(l'.length:Int))=true›.symm.trans q3) (by decide)|refine Qef (dep -(k+1)) [15,11,4,5,8,9,3,12,13,14,1000000] [0,1,2,3,4,5,6,7,10,9] (by omega) ⟨k+1,next.length,wi,next,stays++st2,hk1,rfl,hLk,Pm.hid ⟨g4,g2,g3,fun h=>by omega,fun _=>hnl4⟩,by omega,by simp;omega,rfl⟩
 have hic:i<l'.length/4:=by simp at q3;omega
 obtain⟨g1,g2,g3⟩:=hGi.out;obtain⟨x,hx⟩: ∃x,was[i]? =some x:=⟨_,A0 (by omega)⟩;have hxo:Pl.ptrOk x=true:=ho3.out x (A1 hx);have hr:=Qt (f:=rPtr) hx;have hxd:was.getD i Pl.hole=x:=by rw[A9,hx];rfl
 have hch:((l'.map rPtr).take (((i:Int)+1)*4).toNat).drop ((i:Int)*4).toNat=((l'.take (4*(i+1))).drop (4*i)).map rPtr:=by
  have h1:(((i:Int)+1)*4).toNat=4*(i+1):=by omega
  have h2:((i:Int)*4).toNat=4*i:=by omega
  rw[h1,h2,List.map_drop,AP]
 have hcl:((l'.take (4*(i+1))).drop (4*i)).length=4:=by rw[List.length_drop,AJ];omega
 have hy:=Qrj g1 (l:=(l'.take (4*(i+1))).drop (4*i)) (level:=((k+1:Nat):Int)) hxo
 have hstep:AC (Qz wk l' (k+1:Nat) was (i+1)=if(Qai wi ((l'.take (4*(i+1))).drop (4*i)) (k+1:Nat) x).2.2 then((Qai wi ((l'.take (4*(i+1))).drop (4*i)) (k+1:Nat) x).1,next++[(Qai wi ((l'.take (4*(i+1))).drop (4*i)) (k+1:Nat) x).2.1],st2++(if(Qai wi ((l'.take (4*(i+1))).drop (4*i)) (k+1:Nat) x).2.1=x then [x] else []),true) else(wi,next,st2,false)):=Pm.hid (by
  simp only[Qz,hFi.out,hxd,if_true])
 have cF:=(eFan g wi (N+4*k+i) (by omega) g1 ((l'.take (4*(i+1))).drop (4*i)) hcl ((k+1:Nat):Int) x hxo).arg (l:=[oS g wi,.d (tPtrs ((l'.take (4*(i+1))).drop (4*i))),.d (dI ((k+1:Nat):Int)),.d (dPtr x)]);have hyf:=QoX (w:=wi) (l:=(l'.take (4*(i+1))).drop (4*i)) (level:=((k+1:Nat):Int)) (old:=x);generalize (l'.take (4*(i+1))).drop (4*i)=ch at*;generalize Qai wi ch ((k+1:Nat):Int) x=y at*;obtain⟨w2,p2,ok2⟩:=y;simp only at hy hstep cF hyf;obtain⟨y1,y2,y3⟩:=hy;have z3:w2.gone.length=wi.gone.length:=by rw[y3]
 have hno: ∀p∈next++[p2],Pl.ptrOk p=true:=fun p hp=>by
  rcases AM.1 hp with hp|hp
  ·exact g3 p hp
  ·rw[List.mem_singleton.1 hp];exact y2
 cases ok2
 ·obtain rfl:w2=wi:=hyf rfl
  have hs2:Qz wk l' (k+1:Nat) was (l'.length/4)=(w2,next,st2,false):=by
   have h1:=hstep.out;simp only[AE,if_false] at h1;have h2:=Qj8 (show(Qz wk l' (k+1:Nat) was (i+1)).2.2.2=false by rw[h1]) (l'.length/4 -(i+1));rw[AD (by omega:i+1<=l'.length/4),h1] at h2;exact h2
  have hs3:Qv w t l0 dep dep=(w2,next,stays++st2,false):=by
   have h1:=hLk.out;rw[hs2] at h1;have h2:=Qq8 (show(Qv w t l0 dep (k+1)).2.2.2=false by rw[h1]) (dep -(k+1));rw[AD hk1,h1] at h2;exact h2
  have hres:AC (res=(w2,⟨Pl.hole,0,0⟩,false)):=Pm.hid (by rw[hd.out,hs3];simp);have z4:w2.gone.length=w.gone.length:=by rw[g2]
  have v0:w2.rows.length=w.rows.length:=by rw[g1.rows,hw.rows]
  have v1:w2.refs.length=w.refs.length:=by rw[g1.refs,hw.refs]
  have v2:w2.last.length=w.last.length:=by rw[g1.last,hw.last]
  clear hs2 hs3 hd hLk hstep hFi hGi hF hno hT hlow ho3 hyf y3 z3
  repeat' first|refine kS ?_|refine qD (Qdu rfl rfl (by omega)) ?_|refine qS (Qdu rfl rfl (by omega)) ?_|refine qD (Qjw rfl rfl rfl rfl (by omega) (by omega) (by simp;omega) hch) ?_|refine qD (iy hr) ?_|(show AWP _ (.region 15 _ _) _ _;refine(Fk.awp_drawG (id:=15) [14,16,17,18,19] [13,20,21] [(18,.row 0 zSt),(19,.row 0 zPt)] [] 13 77 (.tup [oS g w2,.d (dPtr p2),.d (dB false)]) ?_))|refine(Fk.aw_fltA 11 ?_)|refine(Fk.aw_fltA 12 ?_)|refine(Fk.aw_planC0 (by rfl) (by kernel_rfl) rfl ?_)|refine Fk.aw_callM [0,1,2,3,4] cF cK (k:=kY ?_)|refine kU ?_|refine kV ?_ ?_<;>intro q|fail
  all_goals first|exact absurd (‹decide ((i:Int)*4<(l'.length:Int))=false›.symm.trans q3) (by decide)|refine QN 5 (hx:=?_);rw[hres.out];exact⟨g,fun _=>rfl,rfl,rfl⟩
 simp only[if_true] at hstep
 repeat' first|refine kS ?_|refine qD (Qdu rfl rfl (by omega)) ?_|refine qS (Qdu rfl rfl (by omega)) ?_|refine qD (Qjw rfl rfl rfl rfl (by omega) (by omega) (by simp;omega) hch) ?_|refine qD (iy hr) ?_|(show AWP _ (.region 15 _ _) _ _;refine(Fk.awp_drawG (id:=15) [14,16,17,18,19] [13,20,21] [(18,.row 0 zSt),(19,.row 0 zPt)] [] 13 77 (.tup [oS g w2,.d (dPtr p2),.d (dB true)]) ?_))|refine(Fk.aw_fltA 11 ?_)|refine(Fk.aw_fltA 12 ?_)|refine(Fk.aw_planC0 (by rfl) (by kernel_rfl) rfl ?_)|refine Fk.aw_callM [0,1,2,3,4] cF cK (k:=kY ?_)|refine qD (Qly rfl rfl) ?_|refine QV Ty.h rfl Ty.h (hb:=?_) (kk:=?_)|refine kU ?_|refine kV ?_ ?_<;>intro q|fail
 all_goals first
  |(simp;omega)
  |exact absurd (‹decide ((i:Int)*4<(l'.length:Int))=false›.symm.trans q3) (by decide)
  |(have hpx:p2=x:=of_decide_eq_true ‹decide (p2=x)=true›
    refine Qh (l'.length/4 -(i+1)) (by omega) ⟨i+1,w2,next++[p2],st2++[x],by omega,rfl,Pm.hid (by rw[hstep.out,if_pos hpx]),Pm.hid ⟨y1,y3.trans g2,hno⟩,by simp;omega,by simp;omega,?_⟩
    subst hpx;simp[keepE,go_sem,AQ];done)
  |(have hpx: ¬p2=x:=of_decide_eq_false ‹decide (p2=x)=false›
    refine Qh (l'.length/4 -(i+1)) (by omega) ⟨i+1,w2,next++[p2],st2,by omega,rfl,Pm.hid (by rw[hstep.out,if_neg hpx,List.append_nil]),Pm.hid ⟨y1,y3.trans g2,hno⟩,by simp;omega,by omega,?_⟩
    simp[keepE,go_sem,AQ];done)
