/- Of fsk_card; no condition. -/
import Derived.Test.YtfmnpmhadmcdkaaGreatDoorS20
import Derived.Test.YtfmnpmhadmcdkaaGreatDoorS21
import Derived.Test.YtfmnpmhadmcdkaaGreatDoorS22
import Derived.Laws.RangeAny
set_option linter.all false
set_option maxRecDepth 100000
set_option maxHeartbeats 8000000
open Bool renaming false_eq_true->AN,eq_iff_iff->AY,toNat_false->As,and_eq_true->Au,toNat_true->Ay,false_or->B2,true_and->B3
open Go renaming Value->B8
open Go.Lib renaming cut->AA,idxFuncFrom->AZ,idxFunc->Ad,repeatL->B9
open Go.Op renaming bytesLess->B5
open Go.Proofs.Tryz renaming prog->A1,ntmps146->Ah,underlying22->Am,func146->An
open Go.RowKit renaming Hid->AM
open Go.Value renaming cells->B7
open List renaming getElem?_eq_getElem->A0,getD_eq_getElem?_getD->A2,replicate->A3,take_of_length_le->A4,mem_of_getElem?->A5,range->A6,take_add_one->A7,mem_append_left->A8,mem_singleton->A9,flatMap_cons->AC,length_cons->AD,length_take->AE,length_pos_iff->AF,length_append->AG,length_eq_zero_iff->AH,mem_append_right->AI,take_length->AJ,length_nil->AK,map_congr_left->AL,mem_take_iff_getElem->AO,foldl_append->AP,all_eq_true->AQ,drop_of_length_le->AR,nil_append->AT,append_nil->AU,range_succ->AW,length_map->AX,mem_append->Aa,perm_append_comm->Ab,mem_cons_of_mem->Ac,getElem_of_mem->Ae,replicate_succ->Af,map_cons->Ag,mem_cons_self->Ai,map_nil->Ak,append_assoc->Al,not_mem_nil->Ao,cons_append->Ap,length_drop->Aq,foldl_cons->Ax,foldl_nil->B0,mem_cons->B1,all_map->B6
open List.Perm renaming append_left->AB,append_right->AS
open List.Sublist renaming append->BA
open Nat renaming zero_add->Aj,le_refl->Av,min_eq_left->Az,le_trans->B4
open Option renaming getD_some->Ar
open Option.some renaming injEq->BB,inj->BC
namespace Go.Proofs.YtfmnpmhadmcdkaaGreatDoor
noncomputable section
section
open Go.RowKit
namespace Aw
variable{t:Pl.Tree}{w w' w2:Pl.Sto}{p:Pl.Ptr}{k g1 g2:Nat}{wd:World}{σ:Sg}{a:D}{args:List AV}
attribute [local irreducible] ASeq ADraw AWP Loc AStep Fg.PlanF Fg.Flts
theorem QrP(l:List Int)(h1:l.length<=1000000):Pure A1 246 [dInts l] (tStrs (l.map Pl.numPut)):=by
 refine kB ?_
 repeat refine kA ?_
 refine QeR 3 1 9 (h:=?_);refine Qo (fun m st=> ∃k:Nat,k<=l.length/\m=l.length -k/\st=⟨19,[(6,.d (dInts l)),(7,.d (dI l.length)),(8,.d (dI k)),(3,.osl 0 k 0 k)],[.arr k 1 9 (((l.take k).map Pl.numPut).map fun s=>[dS s])]⟩) [6,7,8,3] 1 l.length ⟨0,by omega,rfl,by simp[keepE,go_sem]⟩ (round:=?_);rintro m st ⟨k,hk,rfl,rfl⟩
 repeat refine kG ?_
 cases q3:decide ((k:Int)<(l.length:Int))
 ·have:k=l.length:=by simp at q3;omega
  subst this
  repeat refine kA ?_
  refine Qa 0 (h:=?_);refine Qb (hx:=?_);simp;exact A4 (by simp)
 have hk2:k<l.length:=by simp at q3;omega
 obtain⟨y,hy⟩: ∃y,l[k]? =some y:=⟨_,A0 hk2⟩;have hr:=Qt (f:=fun n=>[dI n]) hy;have c:=bNumPut y;have hs:((l.take (k+1)).map Pl.numPut).map (fun s=>[dS s])=((l.take k).map Pl.numPut).map (fun s=>[dS s])++[[dS (Pl.numPut y)]]:=by rw[A7,hy];simp
 have hlk:(((l.take k).map Pl.numPut).map fun s=>[dS s]).length=k:=by simp;omega
 generalize ((l.take k).map Pl.numPut).map (fun s=>[dS s])=R at*
 repeat' first|refine kS ?_|refine qS (iy hr) ?_|refine QV Ty.h rfl Ty.h (hlen:=hlk.symm) (hb:=?_) (kk:=?_)|refine kU ?_|fail
 all_goals first
  |(show(R.length+1)*16<=140737488355328;omega)
  |(refine Qh (l.length -(k+1)) (by omega) ⟨k+1,by omega,rfl,?_⟩
    rw[hs];simp[keepE,go_sem,hlk];done)
theorem QrO(l:List Int)(h1:l.length<=1000000):Does A1 246 [.d (.sl true 1 (l.map fun n=>[dI n]))] [] [] (.osl 0 l.length 0 l.length) [.arr l.length 1 9 ((l.map Pl.numPut).map fun s=>[dS s])]:=by
 refine kL ?hpin fun gvs=>?_
 case hpin=>intro i C hC;simp at hC
 simp only[parA,gslot,Aj,Nat.reduceAdd]
 repeat refine kA ?_
 refine QeR 3 1 9 (h:=?_);refine Qo (fun m st=> ∃k:Nat,k<=l.length/\m=l.length -k/\st=⟨19,[(6,.d (.sl true 1 (l.map fun n=>[dI n]))),(7,.d (dI l.length)),(8,.d (dI k)),(3,.osl 0 k 0 k),(1000000,.gh [] gvs)],[.arr k 1 9 (((l.take k).map Pl.numPut).map fun s=>[dS s])]⟩) [6,7,8,3,1000000] 1 l.length ⟨0,by omega,rfl,by simp[keepE,go_sem]⟩ (round:=?_);rintro m st ⟨k,hk,rfl,rfl⟩
 repeat refine kG ?_
 cases q3:decide ((k:Int)<(l.length:Int))
 ·have:k=l.length:=by simp at q3;omega
  subst this;rw[AJ]
  repeat refine kA ?_
  refine Qee [2,1000000] 1 (H':=[.arr l.length 1 9 ((l.map Pl.numPut).map fun s=>[dS s])]) (hH:=fun R hR=>hR) (h:=?_);exact QdB (hx:=rfl) (hH:=rfl)
 have hk2:k<l.length:=by simp at q3;omega
 obtain⟨y,hy⟩: ∃y,l[k]? =some y:=⟨_,A0 hk2⟩;have hr:=Qt (f:=fun n=>[dI n]) hy;have c:=bNumPut y;have hs:((l.take (k+1)).map Pl.numPut).map (fun s=>[dS s])=((l.take k).map Pl.numPut).map (fun s=>[dS s])++[[dS (Pl.numPut y)]]:=by rw[A7,hy];simp
 have hlk:(((l.take k).map Pl.numPut).map fun s=>[dS s]).length=k:=by simp;omega
 generalize ((l.take k).map Pl.numPut).map (fun s=>[dS s])=R at*
 repeat' first|refine kS ?_|refine qS (iy hr) ?_|refine QV Ty.h rfl Ty.h (hlen:=hlk.symm) (hb:=?_) (kk:=?_)|refine kU ?_|fail
 all_goals first
  |(show(R.length+1)*16<=140737488355328;omega)
  |(refine Qh (l.length -(k+1)) (by omega) ⟨k+1,by omega,rfl,?_⟩
    rw[hs];simp[keepE,go_sem,hlk];done)
theorem QlK(t:Pl.Tree):Pure A1 247 [dTree t] (tStrs (Pl.Qe4 t)):=by
 have cP:=bPtrPut t.root;have cN:=(QrP [t.depth,t.many] (by simp)).arg (l:=[.sl true 1 [[dI t.depth],[dI t.many]]]);refine kE ?_;refine Qa 0 (h:=?_)
 repeat' first|refine kS ?_|refine qD (Qd0 (T:=24) Ty.h rfl Ty.h) ?_|(show AWP _ (.region 1 _ _) _ _;refine(Fg.awp_drawF (id:=1) [] [10] ?_))|refine(QhW Ty.h rfl Ty.h (hcell:=?_) (hb:=?_) (kk:=?_))|refine kU ?_|fail
 all_goals first|(intro r hr d hd;simp at hr;rcases hr with rfl|rfl<;>(simp at hd;subst hd;rfl))|simp;done|refine Qa 1 (h:=?_);refine Qb (hx:=?_);rfl
def Qt1(n:Qj):Pure A1 185 [dNode n] (dS (Q6 n)):=by
 have hd:=Pm.hid (Q6.eq_def n);have c1:=bNodeOk n;refine kE ?_;refine Qa 0 (h:=?_);cases h1:Q8 n
 ·rw[h1] at c1
  repeat refine kA ?_
  refine Qb (hx:=?_);rw[hd.out,h1];rfl
 rw[h1] at c1;have hb:=QdZ h1
 have hL: ∀x∈Qag n,x.length<=4294967296:=by
  intro x hx;have hdl: ∀k,k<=4294967296->(Pl.dec k).length<=4294967296:=fun k hk=>B4 (Pl.QcU 10 k (by omega)) (by decide)
  have h1:=hb.kind;have h2:=hb.links;have h3:=hb.size;have h4:=hb.depth;have h5:=hb.many;simp only[Qag,B1,Ao,or_false] at hx;rcases hx with rfl|rfl|rfl|rfl|rfl|rfl|rfl
  ·exact hdl _ (by omega)
  ·exact hdl _ (by omega)
  ·exact hdl _ (by omega)
  ·exact B4 (Pm.ptrPut_len _) (by decide)
  ·exact hdl _ (by omega)
  ·exact hdl _ (by omega)
  ·decide
 have c5:=(Qpq (Qag n) (by simp[Qag,Pm.big]) hL).arg (l:=[tStrs (Qag n)]);rw[<-QgD hb] at c5;have hk:=hb.kind;have hk2:=hb.links;have hk3:=hb.size;have hk4:=hb.depth;have hk5:=hb.many;have c2:=QrO [n.kind,n.links,n.size] (by simp);have c3:=QlK n.tree;simp only[Ag,Ak,AD,AK,Aj,Nat.reduceAdd] at c2;simp only[Pl.Qe4] at c3;simp only[Pl.Qe4,Ag,Ak,Ap,AT] at c5
 repeat' first|refine kS ?_|(show AWP _ (.region 3 _ _) _ _;refine(Fg.awp_drawF (id:=3) [8,9,12] [7,11,13] ?_))|refine(Fg.aw_fltL (hl:=fun H=>Qd0 Ty.h rfl Ty.h) (k:=?_))|refine(QgZ [] c2 cK (k:=?_))|refine qD (Qd0 (T:=24) Ty.h rfl Ty.h) ?_|refine(QhW Ty.h rfl Ty.h (hcell:=?_) (hb:=?_) (kk:=?_))|refine qD (QfJ cK c5 rfl) ?_|refine kU ?_|fail
 ·intro r hr d hd
  simp only[Ag,Ak,B1,Ao,or_false] at hr;rcases hr with rfl|rfl|rfl<;>(obtain rfl:=A9.1 hd;rfl)
 ·simp
 ·intro r hr d hd
  obtain rfl:=A9.1 hr;obtain rfl:=A9.1 hd;rfl
 ·simp
 ·refine Qb (hx:=?_)
  rw[hd.out,h1,if_pos rfl,<-QgD hb];rfl
theorem bTreeOf(x y z:List UInt8)(hx:x.length<=2048)(hy:y.length<=2048)(hz:z.length<=2048):
 Pure A1 184 [tStrs [x,y,z]] (.tup [dTree ⟨(QB x).1,((Pl.numGet y).getD 0:Nat),((Pl.numGet z).getD 0:Nat)⟩,dB ((QB x).2&&(Pl.numGet y).isSome&&(Pl.numGet z).isSome)]):=by
 have c1:=bPtrGet x (by omega);have c2:=bNumGet y (by unfold Pm.big;omega);have c3:=bNumGet z (by unfold Pm.big;omega);generalize (Pl.numGet y).getD 0=n1 at*;generalize (Pl.numGet z).getD 0=n2 at*;generalize (Pl.numGet y).isSome=o1 at*;generalize (Pl.numGet z).isSome=o2 at*;generalize QB x=pp at*;obtain⟨⟨p1,p2,p3,p4,p5⟩,okp⟩:=pp;refine kC ?_
 repeat' first|refine kS ?_|refine qS (iy rfl) ?_|refine kU ?_|refine kV ?_ ?_<;>intro q|fail
 all_goals
  (refine Qa 0 (h:=?_);refine QR (hx:=?_))
  simp_all
theorem Qt2(s:List UInt8)(hs:s.length<=Pm.big):Pure A1 112 [dS s] (.tup [dNode (Qp s).1,dB (Qp s).2]):=by
 have c:=Qpr s hs;rcases Qnq s with⟨hr,hok⟩|h0;rotate_left
 ·have hn:AM (Qp s=(Qd,false)):=Pm.hid (QhM (.inl (by rw[h0])))
  rw[h0] at c;refine kC ?_
  repeat refine kA ?_
  (refine Qa 0 (h:=?_);refine QR (hx:=?_))
  rw[hn.out];rfl
 by_cases h7:(Qb2 s).1.length=7
 rotate_left
 ·have hn:AM (Qp s=(Qd,false)):=Pm.hid (QhM (.inr h7))
  rw[hok] at c;generalize (Qb2 s).1=l at*;clear hr hok;refine kC ?_
  repeat' first|refine kA ?_|refine kV ?_ ?_<;>intro q|fail
  all_goals first|exfalso;simp only[bne_eq_false_iff_eq] at*;omega|((refine Qa 0 (h:=?_);refine QR (hx:=?_));rw[hn.out];rfl)
 rw[hok] at c;generalize (Qb2 s).1=l at*
 match l,h7 with
 |[y1,y2,y3,y4,y5,y6,y7],_=>
 have hl:=QpV hr;have hg:=Pm.hid (QtS hr);have cn: ∀x∈[y1,y2,y3,y4,y5,y6,y7],Pure A1 179 [dS x] (.tup [dI ((Pl.numGet x).getD 0:Nat),dB (Pl.numGet x).isSome]):=fun x hx=>bNumGet x (by have:=hl x hx;unfold Pm.big;omega)
 have c1:=cn y1 (by simp);have c2:=cn y2 (by simp);have c3:=cn y3 (by simp);have hno: ∀P:Prop,(∀p,Qbj s p->P)-> ¬P->Qp s=(Qd,false):=fun P h hn=>Qlo fun p hp=>hn (h p hp)
 have f1:AM ((Pl.numGet y1).isSome=false->Qp s=(Qd,false)):=Pm.hid fun e=>hno ((Pl.numGet y1).isSome=true) (fun p hp=>by rw[(Qe9 hr hp).1];rfl) (by rw[e];simp)
 have f2:AM ((Pl.numGet y2).isSome=false->Qp s=(Qd,false)):=Pm.hid fun e=>hno ((Pl.numGet y2).isSome=true) (fun p hp=>by rw[(Qe9 hr hp).2.1];rfl) (by rw[e];simp)
 have f3:AM ((Pl.numGet y3).isSome=false->Qp s=(Qd,false)):=Pm.hid fun e=>hno ((Pl.numGet y3).isSome=true) (fun p hp=>by rw[(Qe9 hr hp).2.2.1];rfl) (by rw[e];simp)
 have f5:AM (((QB y4).2&&(Pl.numGet y5).isSome&&(Pl.numGet y6).isSome)=false->Qp s=(Qd,false)):=Pm.hid fun e=>hno (((QB y4).2&&(Pl.numGet y5).isSome&&(Pl.numGet y6).isSome)=true) (fun p hp=>by rw[(Qe9 hr hp).2.2.2.1,(Qe9 hr hp).2.2.2.2.1,(Qe9 hr hp).2.2.2.2.2];rfl) (by rw[e];simp)
 have cp:=Qt1 (QaX y1 y2 y3 y4 y5 y6);have t1:=bTreeOf y4 y5 y6 (hl y4 (by simp)) (hl y5 (by simp)) (hl y6 (by simp));obtain⟨N,hN⟩: ∃N,N=QaX y1 y2 y3 y4 y5 y6:=⟨_,rfl⟩;rw[<-hN] at cp hg;unfold QaX at hN;clear cn hl hr hok hno;generalize (Pl.numGet y1).isSome=o1 at*;generalize (Pl.numGet y2).isSome=o2 at*;generalize (Pl.numGet y3).isSome=o3 at*;generalize ((QB y4).2&&(Pl.numGet y5).isSome&&(Pl.numGet y6).isSome)=o5 at*;generalize (Pl.numGet y1).getD 0=n1 at*;generalize (Pl.numGet y2).getD 0=n2 at*;generalize (Pl.numGet y3).getD 0=n3 at*;generalize (Pl.numGet y5).getD 0=n5 at*;generalize (Pl.numGet y6).getD 0=n6 at*;generalize (QB y4).1=pp at*;obtain⟨p1,p2,p3,p4,p5⟩:=pp;generalize Q6 N=t at*;generalize Qp s=res at*;subst hN;refine kC ?_
 repeat' first|refine kS ?_|refine stepS2 (QsO Ty.h rfl Ty.h) (k:=?_)|refine qS (Qm3 Ty.h rfl rfl rfl) ?_|refine kU ?_|fail
 refine Qo (fun m st=> ∃k a b d:Int,((m=3/\k=0/\a=0/\b=0/\d=0)∨(m=2/\o1=true/\k=1/\a=n1/\b=0/\d=0)∨(m=1/\o1=true/\o2=true/\k=2/\a=n1/\b=n2/\d=0)∨(m=0/\o1=true/\o2=true/\o3=true/\k=3/\a=n1/\b=n2/\d=n3))/\
  st=⟨63,[(0,.d (dS s)),(4,.d (tStrs [y1,y2,y3,y4,y5,y6,y7])),(6,.ptr 1 0 0),(25,.rsl 2 0 3),(26,.d (dI 3)),(27,.d (dI k)),(2,.ptr 0 0 0)],
   [.row 0 [.d (dI 0),.d (dI 0),.d (dI 0),.d (dI 0),.d (dI 0),.d (dI 0),.d (dI 0),.d (dI 0),.d (dI 0),.d (dI 0)],.row 0 [.d (dI a),.d (dI b),.d (dI d),.d (dI 0),.d (dI 0),.d (dI 0),.d (dI 0),.d (dI 0),.d (dI 0),.d (dI 0)],.row 0 [.ptr 1 0 0,.ptr 1 0 1,.ptr 1 0 2]]⟩) [0,4,6,25,26,27,2] 3 3 ⟨0,0,0,0,.inl ⟨rfl,rfl,rfl,rfl,rfl⟩,rfl⟩ (round:=?_)
 rintro m st ⟨k,a,b,d,hcase,rfl⟩;rcases hcase with⟨rfl,rfl,rfl,rfl,rfl⟩|⟨rfl,r1,rfl,rfl,rfl,rfl⟩|⟨rfl,r1,r2,rfl,rfl,rfl,rfl⟩|⟨rfl,r1,r2,r3,rfl,rfl,rfl,rfl⟩
 ·repeat' first|refine kS ?_|refine qS (QcV Ty.h rfl Ty.h rfl rfl rfl (by decide) rfl) ?_|refine qS (Qfv Ty.h rfl Ty.h rfl rfl rfl rfl (by decide) (by decide)) ?_|refine kU ?_|refine kV ?_ ?_<;>intro q|fail
  ·(refine Qa 0 (h:=?_);refine QR (hx:=?_))
   rw[f1.out (by simp_all)];rfl
  ·exact Qh 2 (by decide) ⟨1,n1,0,0,.inr (.inl ⟨rfl,by simp_all,rfl,rfl,rfl,rfl⟩),by simp[keepE,go_sem]⟩
 ·repeat' first|refine kS ?_|refine qS (QcV Ty.h rfl Ty.h rfl rfl rfl (by decide) rfl) ?_|refine qS (Qfv Ty.h rfl Ty.h rfl rfl rfl rfl (by decide) (by decide)) ?_|refine kU ?_|refine kV ?_ ?_<;>intro q|fail
  ·(refine Qa 0 (h:=?_);refine QR (hx:=?_))
   rw[f2.out (by simp_all)];rfl
  ·exact Qh 1 (by decide) ⟨2,n1,n2,0,.inr (.inr (.inl ⟨rfl,r1,by simp_all,rfl,rfl,rfl,rfl⟩)),by simp[keepE,go_sem]⟩
 ·repeat' first|refine kS ?_|refine qS (QcV Ty.h rfl Ty.h rfl rfl rfl (by decide) rfl) ?_|refine qS (Qfv Ty.h rfl Ty.h rfl rfl rfl rfl (by decide) (by decide)) ?_|refine kU ?_|refine kV ?_ ?_<;>intro q|fail
  ·(refine Qa 0 (h:=?_);refine QR (hx:=?_))
   rw[f3.out (by simp_all)];rfl
  ·exact Qh 0 (by decide) ⟨3,n1,n2,n3,.inr (.inr (.inr ⟨rfl,r1,r2,by simp_all,rfl,rfl,rfl,rfl⟩)),by simp[keepE,go_sem]⟩
 ·repeat' first|refine kS ?_|refine qS (Qlu rfl rfl rfl rfl (by decide) (by decide) (by simp)) ?_|refine kU ?_|refine kV ?_ ?_<;>intro q|fail
  ·(refine Qa 0 (h:=?_);refine QR (hx:=?_))
   rw[f5.out (by simp_all)];rfl
  ·(refine Qa 0 (h:=?_);refine QR (hx:=?_))
   rw[hg.out,if_neg (by simpa using q)];rfl
  ·(refine Qa 0 (h:=?_);refine QR (hx:=?_))
   rw[hg.out,if_pos (by simpa using q)]
attribute [local irreducible] EndR Fk.PlanF Fk.Flts Fk.AStepM Fk.Grew Fk.Gs
def eCut(g:Nat)(w:Pl.Sto)(N:Nat)(hN:N<=800000)(hw:w.W N)(t:Pl.Tree)(ht:Qx t)(many:Nat)(hm:many<=16):
 DoesE A1 282 [oS g w,.d (dTree t),.d (dI many)] (hS g w) (gS g w) (fun x H=> ∃g',((QM w t many).2.2=false->g'=g)/\x= .tup [oS g' (QM w t many).1,.d (dTree (QM w t many).2.1),.d (dB (QM w t many).2.2)]/\H=hS g' (QM w t many).1):=by
 have hd:=Pm.hid (QM.eq_def w t many);have hgood:=hw.good;have c1:=dWide w.st hgood t ht;have hl:=Qd3 w.st ht.hi;have ho:=Qfn w.st ht.root;have c2:=pinS (X:=fun g'=> .tup [oS g' (Qw w t (Qe w.st t) many).1,.d (dTree (Qw w t (Qe w.st t) many).2.1),.d (dB (Qw w t (Qe w.st t) many).2.2)]) (C:=fun g'=>(Qw w t (Qe w.st t) many).2.2=false->g'=g) (eLay g w N (by omega) hw t ht.root (Qe w.st t) hl ho many hm);have hW:=(lay_W hw ht.root ho hm).1;have hsim:=fun h=>Qi0 (w:=w) (t:=t) (leaves:=Qe w.st t) (many:=many) h
 have hT:((Qe w.st t).map rPtr).take 16=(Qe w.st t).map rPtr:=A4 (by simp[hl])
 have hfl:[Blk.arr 2 5 31 ((Qe w.st t).map rPtr)].all Blk.flat=true:=by
  simp[Blk.flat];intro x _;exact⟨rfl,rfl,rfl,rfl,rfl⟩
 generalize QM w t many=res at*;generalize Qe w.st t=wd at*;generalize Qw w t wd many=y at*;obtain⟨w2,t2,ok2⟩:=y;simp only at c2 hd hW hsim
 by_cases hq:(many:Int)=t.many
 ·rw[if_pos hq] at hd
  clear c1 c2 hsim;have hb:AM (((many:Int)==t.many)=true):=Pm.hid (by simpa using hq);refine kH fun gvs=>?_
  refine Qa 6 (h:=?_)
  repeat' first|refine kS ?_|(show AWP _ (.region 2 _ _) _ _;refine(Fg.awp_drawF (id:=2) [1] [2,3] ?_))|refine kU ?_|refine kV ?_ ?_<;>intro q|fail
  all_goals first|exact absurd (hb.out.symm.trans ‹((many:Int)==t.many)=false›) (by decide)|refine QN 5 (hx:=?_);rw[hd.out];exact⟨g,fun _=>rfl,rfl,rfl⟩
 rw[if_neg hq] at hd;have hb:AM (((many:Int)==t.many)=false):=Pm.hid (by simpa using hq);rw[<-show(AV.d (.sl true 5 ((wd.map rPtr).take 16)))= .d (tPtrs wd) by rw[hT]] at c2;have hm0:=ht.manyLo;have hm1:=ht.manyHi;have w0:w2.rows.length=w.rows.length:=by rw[hW.rows,hw.rows]
 have w1:w2.refs.length=w.refs.length:=by rw[hW.refs,hw.refs]
 have wl2:w2.last.length=w.last.length:=by rw[hW.last,hw.last]
 cases ok2
 ·obtain⟨z1,z2,z3⟩:=hsim rfl
  have z4:w2.gone.length=w.gone.length:=by rw[z1]
  simp only[AN,if_false] at hd;clear hsim;refine kH fun gvs=>?_
  refine Qa 6 (h:=?_)
  repeat' first|refine kS ?_|refine(QdK (ds:=[dTree t]) c1 cK hw rfl hfl (k:=?_))|refine(Qa 9 (C:= .arr 2 5 31 (wd.map rPtr)) (h:=?_))|(refine QA [0,1,2,3,4] c2 cK (k:=?_);rintro _ _ ⟨g2,hg2,hC,rfl,rfl⟩;refine Qd1 (k:=?_))|(show AWP _ (.region 6 _ _) _ _;refine(Fg.awp_drawF (id:=6) [1] [2,3] ?_))|refine kU ?_|refine kV ?_ ?_<;>intro q|fail
  all_goals first
   |exact absurd (hb.out.symm.trans ‹((many:Int)==t.many)=true›) (by decide)
   |(obtain rfl:=hC rfl
     refine QN 5 (hx:=?_);rw[hd.out];refine⟨_,fun _=>rfl,?_,rfl⟩
     simp only[oS,z1,z2,z3];rfl)
 simp only[if_true] at hd;clear hsim;refine kH fun gvs=>?_
 refine Qa 6 (h:=?_)
 repeat' first|refine kS ?_|refine(QdK (ds:=[dTree t]) c1 cK hw rfl hfl (k:=?_))|refine(Qa 9 (C:= .arr 2 5 31 (wd.map rPtr)) (h:=?_))|(refine QA [0,1,2,3,4] c2 cK (k:=?_);rintro _ _ ⟨g2,hg2,hC,rfl,rfl⟩;refine Qd1 (k:=?_))|refine kU ?_|refine kV ?_ ?_<;>intro q|fail
 all_goals first|exact absurd (hb.out.symm.trans ‹((many:Int)==t.many)=true›) (by decide)|skip
 refine Qa 11 (h:=?_);refine QdI [13,9,10,11,6,7,1000000] [0,1,2,3,4,7,8,10] (env':=[(13,.d (dI many)),(9,.d (.sl true 5 ((wd.map rPtr).take 16))),(10,.ptr 7 0 0),(11,.d (.pd [dI t2.root.pat,dI t2.root.birth,dI t2.root.size,dI t2.root.sum,dI t2.root.level,dI t2.depth,dI t2.many])),(6,.ptr 5 0 0),(7,.ptr 6 0 0),(1000000,.gh (gS g w) gvs)]) (H':=hS g2 w2++[.row 0 zSt,.row 0 zTr,.row 0 (rowS g2 w2)]) (h:=?_);rw[hT];clear c1 c2 hT hC
 refine Qo (fun m st=> ∃(i g3:Nat) (wi:Pl.Sto),many<=i/\i<=16/\m=16 -i/\AM (wi=w2.freeL ((wd.take i).drop many))/\AM (wi.W (N+13+(i -many)))/\(g<g3∨g3=g/\wi.gone.length=w.gone.length)/\
  st=⟨51,[(13,.d (dI i)),(9,.d (tPtrs wd)),(10,.ptr 7 0 0),(11,.d (.pd [dI t2.root.pat,dI t2.root.birth,dI t2.root.size,dI t2.root.sum,dI t2.root.level,dI t2.depth,dI t2.many])),(6,.ptr 5 0 0),(7,.ptr 6 0 0),(1000000,.gh (gS g w) gvs)],hS g3 wi++[.row 0 zSt,.row 0 zTr,.row 0 (rowS g3 wi)]⟩) [13,9,10,11,6,7,1000000] 8 (16 -many)
  ⟨many,g2,w2,by omega,hm,rfl,Pm.hid (by rw[AR (by rw[AE];omega)];rfl),Pm.hid (hW.le (by omega)),hg2,rfl⟩ (round:=?_)
 rintro m st ⟨i,g3,wi,hi1,hi2,rfl,hwi,hWi,hg3,rfl⟩;have hW3:=hWi.out;simp only[hS,Ap,AT]
 repeat refine kG ?_
 cases q4:decide ((i:Int)<(wd.length:Int))
 ·have hi:i=16:=by simp at q4;omega
  have hw3:=hwi.out;rw[hi,A4 (by omega)] at hw3;rw[<-hw3] at hd;have v0:wi.rows.length=w.rows.length:=by rw[hW3.rows,hw.rows]
  have v1:wi.refs.length=w.refs.length:=by rw[hW3.refs,hw.refs]
  have v2:wi.last.length=w.last.length:=by rw[hW3.last,hw.last]
  clear hwi hWi hw3
  repeat' first|refine kS ?_|(show AWP _ (.region 11 _ _) _ _;refine(Fg.awp_drawF (id:=11) [1] [2,3] ?_))|refine kU ?_|fail
  all_goals first|(rcases hg3 with hg3|⟨rfl,hg3⟩<;>(refine QN 5 (hx:=?_);rw[hd.out];refine⟨_,?_,rfl,rfl⟩;intro h;cases h))
 have hi:i<wd.length:=by simp at q4;omega
 obtain⟨x,hx⟩: ∃x,wd[i]? =some x:=⟨_,A0 hi⟩;have hr:=Qt (f:=rPtr) hx;have hxo:=ho x (A5 hx);have cf:=eFree2 g3 wi (N+13+(i -many)) (by omega) hW3 x hxo;have hWf:=(hW3.free hxo).le (M:=N+13+(i+1 -many)) (by omega)
 have hst:AM (w2.freeL ((wd.take (i+1)).drop many)=wi.free x):=Pm.hid (by
  rw[A7,hx,List.drop_append_of_le_length (by rw[AE];omega),hwi.out];unfold Pl.Sto.freeL
  rw[AP];rfl)
 clear hx hwi hWi;generalize wi.free x=wf at*
 repeat' first|refine kS ?_|refine qD (iy hr) ?_|(show AWP _ (.region 10 _ _) _ _;refine(Fg.awp_drawF (id:=10) [] [5,6] ?_))|(refine QeL [0,1,2,3,4] cf cK (k:=?_);rintro _ _ ⟨g4,hg4,rfl,rfl⟩;refine QkA (k:=?_))|refine kU ?_|fail
 all_goals first|refine Qh (16 -(i+1)) (by omega) ⟨i+1,g4,wf,by omega,by omega,rfl,Pm.hid hst.out.symm,Pm.hid hWf,(by rcases hg3 with h1|⟨h1,h2⟩<;>rcases hg4 with h3|⟨h3,h4⟩<;>first|(left;omega)|(right;exact⟨by omega,by omega⟩)),?_⟩;simp[keepE,go_sem];done
def Qcs:Nat->List UInt8->List (List UInt8)
 |0,_=>[]
 |n+1,s=>if s=[] then [] else s.take 128::Qcs n (s.drop 128)
def QaG(s:List UInt8):List (List UInt8):=Qcs s.length s
theorem Qqg: ∀(n:Nat) (s:List UInt8),s.length<=n->(Qcs n s).length=(s.length+127)/128
 |0,s,h=>by
  have:s.length=0:=by omega
  rw[this];rfl
 |n+1,s,h=>by
  unfold Qcs;split
  ·grind
  ·rename_i h0
   have h1:0<s.length:=AF.2 h0;rw[AD,Qqg n _ (by grind),Aq];omega
def Qao(w:Pl.Sto)(t:Pl.Tree):List (List UInt8)->Nat->Pl.Sto×Pl.Tree×Bool
 |[],_=>(w,t,true)
 |x::l,k=>if(Qm w t k x).2.2 then Qao (Qm w t k x).1 (Qm w t k x).2.1 l (k+1) else((Qm w t k x).1,t,false)
def Qax(w:Pl.Sto)(t:Pl.Tree)(text:List UInt8):Pl.Sto×Pl.Tree×Bool:=
 if 16<(QaG text).length then(w,t,false) else
 if(Qao w t (QaG text) 0).2.2 then QM (Qao w t (QaG text) 0).1 (Qao w t (QaG text) 0).2.1 (QaG text).length else Qao w t (QaG text) 0
structure Qc5(w:Pl.Sto)(t:Pl.Tree)(w':Pl.Sto)(t':Pl.Tree)(X:List Pl.Ptr):Prop where
 tr:Qbr w' t'
 live:QU w' (Q7 w'.st t'++X)
 keep:QaC w w' X
 txg:w'.txg=w.txg
theorem QjW{X:List Pl.Ptr}: ∀(l:List (List UInt8)) (k:Nat) {w:Pl.Sto} {t:Pl.Tree},Qbr w t->QU w (Q7 w.st t++X)->k+l.length<=16->(Qao w t l k).2.2=true->
 Qc5 w t (Qao w t l k).1 (Qao w t l k).2.1 X/\(Qao w t l k).2.1.many=(if l=[] then t.many.toNat else max t.many.toNat (k+l.length):Nat)
 |[],k,w,t,hT,h,_,_=>⟨⟨hT,h,fun _ _=>rfl,rfl⟩,by have:=hT.good.manyLo;rw[if_pos rfl];show t.many=_;omega⟩
 |x::l,k,w,t,hT,h,hk,hok=>by
  simp only[Qao] at hok⊢;rw[AD] at hk;split at hok;rotate_left
  ·cases hok
  rename_i h1;rw[if_pos h1];obtain⟨a1,a2,a3,a4,a5,_⟩:=Qmd hT (by omega) h h1;generalize Qm w t k x=y at*;obtain⟨⟨b1,b2,b3,b4⟩,b5⟩:=QjW l (k+1) a1 a3 (by omega) hok;refine⟨⟨b1,b2,fun q hq=>(b3 q hq).trans (a4 q hq),b4.trans a5⟩,?_⟩
  grind
theorem bput_in{X:List Pl.Ptr}{text:List UInt8}(hT:Qbr w t)(h:QU w (Q7 w.st t++X))(hok:(Qax w t text).2.2=true):
 Qc5 w t (Qax w t text).1 (Qax w t text).2.1 X/\(Qax w t text).2.1.many=(text.length+127)/128/\text.length<=2048:=by
 have hc:(QaG text).length=(text.length+127)/128:=Qqg _ _ (Av _);unfold Qax at hok⊢;split at hok
 ·cases hok
 rename_i h16;rw[if_neg h16];split at hok
 ·rename_i h1
  rw[if_pos h1];obtain⟨⟨a1,a2,a3,a4⟩,_⟩:=QjW (QaG text) 0 hT h (by omega) h1;generalize Qao w t (QaG text) 0=y at*;obtain⟨b1,b2,b3,b4,b5,_⟩:=Qr4 a1 a2 (by omega) hok;refine⟨⟨b1,b3,fun q hq=>(b4 q hq).trans (a3 q hq),b5.trans a4⟩,?_,by omega⟩;omega
 grind
theorem QtK(h:Qbr w t):Pl.ptrHole t.root=true∨t.root.level=t.depth:=by
 have hl:=h.lv
 have hbl: ∀{p:Pl.Ptr} {n:Int},(Qi w.st p n).2=true->Pl.ptrHole p=true∨p.level=n:=fun{p n} hb=>by
  grind [Qi]
 have hd:t.depth=0∨t.depth=1∨t.depth=2:=by rw[h.dep];grind [QfM]
 rcases hd with hd|hd|hd
 ·have:=h.zero t.root (by grind [leaves0])
  grind
 ·grind [leaves1]
 grind [leaves2]
def Qn(w:Pl.Sto)(t:Pl.Tree)(k:Nat):Qj×Bool:=Qp (Qf w.rows ((Qe w.st t).getD k Pl.hole)).1
def Qbh(s:Pm.Store)(n:Qj×Bool):List Pl.Ptr:=if n.2 then Q7 s n.1.tree else []
def Qb6(w:Pl.Sto)(t:Pl.Tree)(id:Nat):List Pl.Ptr:=(A6 16).flatMap fun k=>if k=id then [] else Qbh w.st (Qn w t k)
def Qcb(w:Pl.Sto)(t:Pl.Tree):List Pl.Ptr:=(A6 16).flatMap fun k=>Qbh w.st (Qn w t k)
theorem QnI{α:Type}(f:Nat->List α)(id:Nat): ∀l:List Nat,l.Nodup->id∈l->(l.flatMap f).Perm (f id++l.flatMap fun k=>if k=id then [] else f k)
 |[],_,h=>by cases h
 |k::l,hn,h=>by
  rw[List.nodup_cons] at hn;rw[AC,AC]
  by_cases hk:k=id
  ·subst hk
   rw[if_pos rfl,AT]
   have:(l.flatMap fun j=>if j=k then [] else f j)=l.flatMap f:=by
    grind [AL]
   rw[this]
  ·rw[if_neg hk]
   have ih:=QnI f id l hn.2 (by grind);refine(AB _ ih).trans ?_
   grind [AS,Ab]
def Qqs(w:Pl.Sto)(t:Pl.Tree){id:Nat}(h:id<16):(Qcb w t).Perm (Qbh w.st (Qn w t id)++Qb6 w t id):=QnI _ id _ List.nodup_range (List.mem_range.2 h)
structure QcN(w:Pl.Sto)(t:Pl.Tree)(id:Nat)(E:List Pl.Ptr):Prop where
 tr:Qbr w t
 nod: ∀k,k<16->k≠id->(Qn w t k).2=true->Qbr w (Qn w t k).1.tree
 live:QU w (Q7 w.st t++(Qb6 w t id++E))
structure QbE(w:Pl.Sto)(t:Pl.Tree):Prop where
 tr:Qbr w t
 nod: ∀k,k<16->(Qn w t k).2=true->Qbr w (Qn w t k).1.tree
 live:QU w (Q7 w.st t++Qcb w t)
def Qhz(h:QbE w t){id:Nat}(hid:id<16):QcN w t id (Qbh w.st (Qn w t id)):=
 ⟨h.tr,fun k hk _=>h.nod k hk,h.live.perm (AB _ ((Qqs w t hid).trans Ab))⟩
theorem Qsj(hT:Qbr w t)(k:Nat):Pl.ptrHole ((Qe w.st t).getD k Pl.hole)=true∨(Qe w.st t).getD k Pl.hole∈Q7 w.st t:=by
 cases hh:Pl.ptrHole ((Qe w.st t).getD k Pl.hole)
 ·refine .inr ?_
  have hk:k<(Qe w.st t).length:=by
   rw[A2] at hh;cases hx:(Qe w.st t)[k]? with
   |none=>rw[hx] at hh;exact absurd hh (by decide)
   |some q=>grind
  unfold Q7;rw[<-Qmp];exact AI _ (QeA.2 ⟨Pl.QdE hk,hh⟩)
 grind
theorem Qmj(h:Pl.ptrHole p=true∨w'.rows.getD p.pat.toNat []=w.rows.getD p.pat.toNat []):Qf w'.rows p=Qf w.rows p:=by grind [Qf]
theorem QeW{s:Pm.Store}{q:Pl.Ptr}(h:q∈Q9 s t):q∈Q7 s t:=A8 _ h
theorem QkI{id:Nat}{E E':List Pl.Ptr}(h:QcN w t id E)(hk:QaC w w' (Q7 w.st t++Qb6 w t id))(ht:w.txg<=w'.txg)(hl:QU w' (Q7 w.st t++(Qb6 w t id++E'))):
 QcN w' t id E'/\(∀k,Qn w' t k=Qn w t k)/\Q7 w'.st t=Q7 w.st t/\Qb6 w' t id=Qb6 w t id:=by
 obtain⟨k1,k2,k3,k4,k5⟩:=QeS (w':=w') h.tr (fun q hq=>hk q (A8 _ (QeW hq))) ht
 have hnd: ∀k,Qn w' t k=Qn w t k:=fun k=>by
  unfold Qn;rw[k5,Qmj ((Qsj h.tr k).imp (fun e=>e) fun e=>hk _ (A8 _ e))]
 have hnp: ∀k,k<16->k≠id->Qbh w'.st (Qn w t k)=Qbh w.st (Qn w t k)/\((Qn w t k).2=true->Qbr w' (Qn w t k).1.tree):=fun k hk16 hki=>by
  cases hn:(Qn w t k).2
  ·grind [Qbh]
  ·have hT2:=h.nod k hk16 hki hn
   have hin: ∀q∈Q7 w.st (Qn w t k).1.tree,q∈Qb6 w t id:=fun q hq=>by
    grind [Qb6,Qbh]
   obtain⟨j1,_,_,j4,_⟩:=QeS (w':=w') hT2 (fun q hq=>hk q (AI _ (hin q (QeW hq)))) ht
   grind [Qbh]
 have hx:Qb6 w' t id=Qb6 w t id:=by
  grind [Qb6,AL]
 exact⟨⟨k1,fun k hk16 hki hn=>by grind,by grind⟩,hnd,k4,hx⟩
def Qm9{x:List UInt8}(h:x.length<=100):(Pl.item x).length<=104:=by
 have:=Pl.QcU 2 x.length (by omega);rw[Pl.Qgv];omega
def Qqc(h:Pl.ptrOk p=true):(Pl.ptrPut p).length<=100:=by
 obtain⟨h1,h2,h3,h4,h5⟩:=Pl.Qdx h;unfold Pl.ptrPut;rw[if_pos h];split
 ·decide
 ·have a1:=Pl.QcU 9 p.pat.toNat (by omega)
  have a2:=Pl.QcU 9 p.birth.toNat (by omega);have a3:=Pl.QcU 9 p.size.toNat (by omega);have a4:=Pl.QcU 9 p.sum.toNat (by omega);have a5:=Pl.QcU 9 p.level.toNat (by omega);simp[Pl.ptrText,Pl.dots];omega
theorem Qmo{n:Qj}(h:Q8 n=true):Qbj (Q6 n) n:=by
 have hb:=QdZ h;have b1:=hb.kind;have b2:=hb.links;have b3:=hb.size;have b4:=hb.depth;have b5:=hb.many;have d: ∀k:Nat,k<=3000->(Pl.item (Pl.dec k)).length<=104:=fun k hk=>Qm9 (by have:=Pl.QcU 9 k (by omega);omega)
 have a0:=d n.kind.toNat (by omega);have a1:=d n.links.toNat (by omega);have a2:=d n.size.toNat (by omega);have a3:=Qm9 (Qqc hb.ptr);have a4:=d n.tree.depth.toNat (by omega);have a5:=d n.tree.many.toNat (by omega);have a6:(Pl.item [101,110,100]).length<=104:=Qm9 (by decide)
 have he:(Pl.enc (Qag n)).length<=2048:=by
  simp only[Qag,Pl.enc,AC,List.flatMap_nil,AG,AK];omega
 have hf:Pl.Qdb (Qag n)=some (Pl.enc (Qag n)):=by unfold Pl.Qdb;rw[if_pos ⟨by simp[Qag],he⟩]
 refine⟨h,?_⟩;unfold Q6 Pl.fp;rw[if_pos h,hf];exact Pl.Qgi.1 hf
theorem Qip:Qp []=(Qd,false):=by
 refine Qlo fun n h=>?_
 have h2:=h.2.2.2;simp only[Qag,Pl.QeO] at h2;exact Pl.Qfz _ (List.append_eq_nil_iff.1 h2).1
theorem ng_put(n:Qj):Qp (Q6 n)=if Q8 n then(n,true) else(Qd,false):=by grind [Q6,Qip,ng_is,Qmo]
theorem Qor{id:Nat}{n:Qj}(hid:id<16)(h:QcN w t id (Q7 w.st n.tree))(hn:Q8 n=true->Qbr w n.tree)(hok:(Qm w t id (Q6 n)).2.2=true):
 QbE (Qm w t id (Q6 n)).1 (Qm w t id (Q6 n)).2.1/\(Qm w t id (Q6 n)).2.1.many=(max t.many.toNat (id+1):Nat)/\
 (∀k,k≠id->Qn (Qm w t id (Q6 n)).1 (Qm w t id (Q6 n)).2.1 k=Qn w t k)/\Qn (Qm w t id (Q6 n)).1 (Qm w t id (Q6 n)).2.1 id=if Q8 n then(n,true) else(Qd,false):=by
 obtain⟨a1,a2,a3,a4,a5,a6,a7⟩:=Qmd h.tr hid h.live hok;generalize Qm w t id (Q6 n)=y at*
 have hnd: ∀k,k≠id->Qn y.1 y.2.1 k=Qn w t k:=fun k hk=>by
  grind [Qn]
 have hndi:Qn y.1 y.2.1 id=if Q8 n then(n,true) else(Qd,false):=by grind [Qn,ng_put]
 have htr: ∀k,k<16->k≠id->(Qn w t k).2=true->Qbr y.1 (Qn w t k).1.tree/\Q7 y.1.st (Qn w t k).1.tree=Q7 w.st (Qn w t k).1.tree:=fun k hk16 hk hn2=>by
  have hin: ∀q∈Q7 w.st (Qn w t k).1.tree,q∈Qb6 w t id:=fun q hq=>by
   grind [Qb6,Qbh]
  obtain⟨j1,_,_,j4,_⟩:=QeS (w':=y.1) (h.nod k hk16 hk hn2) (fun q hq=>a4 q (A8 _ (hin q (QeW hq)))) (by omega)
  grind
 have hx:Qb6 y.1 y.2.1 id=Qb6 w t id:=by
  grind [Qb6,AL,Qbh]
 have hni:Q8 n=true->Qbr y.1 n.tree/\Q7 y.1.st n.tree=Q7 w.st n.tree:=fun hno=>by
  obtain⟨j1,_,_,j4,_⟩:=QeS (w':=y.1) (hn hno) (fun q hq=>a4 q (AI _ (QeW hq))) (by omega)
  grind
 refine⟨⟨a1,fun k hk16 hn2=>?_,?_⟩,a2,hnd,hndi⟩
 ·grind
 ·have hp:=Qqs y.1 y.2.1 hid
  rw[hx,hndi] at hp;cases hno:Q8 n
  ·rw[hno] at hp
   refine QU.sub (R:=Q7 w.st n.tree) a3 ?_;rw[<-Al];exact AS _ (AB _ hp.symm)
  ·rw[hno] at hp
   refine a3.perm (AB _ ?_)
   grind [Qbh]
abbrev Q4:=Pl.Sto×Pl.Tree×Bool
def Qaq(f:Q4)(id:Nat)(n:Qj):Q4:=
 if f.2.2 then f else((Qm f.1 f.2.1 id (Q6 n)).1,(Qm f.1 f.2.1 id (Q6 n)).2.1,!(Qm f.1 f.2.1 id (Q6 n)).2.2)
def Ql(f:Q4)(id:Nat):Qj:=(Q5 f.1.st f.2.1 id).1
def QW(f:Q4)(id:Nat)(l:List Qq):Q4:=
 if f.2.2 then f else Qaq ((Qax f.1 (Ql f id).tree (QG l)).1,f.2.1,!(Qax f.1 (Ql f id).tree (QG l)).2.2) id
  {Ql f id with tree:=(Qax f.1 (Ql f id).tree (QG l)).2.1,size:=(QG l).length}
def QeB(hT:Qbr w t)(hk:k<16):Q5 w.st t k=Qn w t k:=by
 unfold Q5 Qn;split
 ·rename_i h;rw[texts_get w.st hT.good h];rfl
 ·rename_i h
  rw[hT.top k (by omega),Qfq,Qip]
def QcT(f:Q4):Prop:=f.2.2=false->QbE f.1 f.2.1
variable{f:Q4}
theorem QmI{id:Nat}{n:Qj}(hid:id<16)(h:f.2.2=false->QcN f.1 f.2.1 id (Q7 f.1.st n.tree))(hn:f.2.2=false->Q8 n=true->Qbr f.1 n.tree)(hok:(Qaq f id n).2.2=false):
 f.2.2=false/\QbE (Qaq f id n).1 (Qaq f id n).2.1/\(Qaq f id n).2.1.many=(max f.2.1.many.toNat (id+1):Nat)/\
 (∀k,k≠id->Qn (Qaq f id n).1 (Qaq f id n).2.1 k=Qn f.1 f.2.1 k)/\Qn (Qaq f id n).1 (Qaq f id n).2.1 id=if Q8 n then(n,true) else(Qd,false):=by grind [Qaq,Qor]
theorem QsC{size:Nat}(h:size<=2048):Qac 2 size=((size+127)/128:Nat):=by grind [Qac,QaV,Pl.inR]
theorem QmU(m:Nat):((Q2 m:Nat):Int)=Qbk m:=by grind [Q2,Qbk]
theorem QsI{n:Qj}{size:Nat}(h:Q8 n=true)(hk:n.kind=2)(hT:Qbr w t)(hm:t.many=(size+127)/128)(hs:size<=2048):Q8 {n with tree:=t,size:=size}=true:=by
 have hl:=(QdZ h).one hk;unfold Q8;dsimp only;rw[hk,QsC hs,hT.dep,hm];have e1:(((size:Int)+127)/128).toNat=(size+127)/128:=by omega
 have e2:((size:Int)+127)/128=(((size+127)/128:Nat):Int):=by omega
 rw[e1,e2,<-QmU,hl,hT.good.root];have hlv:=QtK hT;rw[hT.dep,hm,e1] at hlv
 grind [Pl.inR]
theorem QqO{id:Nat}{l:List Qq}(hid:id<16)(h:QcT f)(hn:f.2.2=false->(Qn f.1 f.2.1 id).2=true/\(Qn f.1 f.2.1 id).1.kind=2)(hok:(QW f id l).2.2=false):
 f.2.2=false/\QbE (QW f id l).1 (QW f id l).2.1/\(QW f id l).2.1.many=(max f.2.1.many.toNat (id+1):Nat)/\
 (∀k,k≠id->Qn (QW f id l).1 (QW f id l).2.1 k=Qn f.1 f.2.1 k)/\(Qn (QW f id l).1 (QW f id l).2.1 id).2=true/\(Qn (QW f id l).1 (QW f id l).2.1 id).1.kind=2:=by
 unfold QW at hok⊢;cases hf:f.2.2;rotate_left
 ·grind
 rw[hf] at hok;simp only[AN,if_false] at hok⊢;have hF:=h hf;obtain⟨hn1,hn2⟩:=hn hf;have e1:Ql f id=(Qn f.1 f.2.1 id).1:=by unfold Ql;rw[QeB hF.tr hid]
 rw[e1] at hok⊢;have hop:=Qhz hF hid;have hT:=hF.nod id hid hn1
 have hnok:Q8 (Qn f.1 f.2.1 id).1=true:=by
  unfold Qn at hn1⊢;rcases QfV (Qf f.1.rows ((Qe f.1.st f.2.1).getD id Pl.hole)).1 with e|e
  ·exact e.1.1
  grind
 have hE:Qbh f.1.st (Qn f.1 f.2.1 id)=Q7 f.1.st (Qn f.1 f.2.1 id).1.tree:=by grind [Qbh]
 rw[hE] at hop;have hb: ∀(hb0:(Qax f.1 (Qn f.1 f.2.1 id).1.tree (QG l)).2.2=true),_:=fun hb0=>bput_in hT (X:=Q7 f.1.st f.2.1++Qb6 f.1 f.2.1 id) (hop.live.perm (by grind)) hb0
 generalize Qax f.1 (Qn f.1 f.2.1 id).1.tree (QG l)=y at*
 have key:y.2.2=true->QcN y.1 f.2.1 id (Q7 y.1.st y.2.1)/\(∀k,Qn y.1 f.2.1 k=Qn f.1 f.2.1 k)/\Qbr y.1 y.2.1/\Q8 {(Qn f.1 f.2.1 id).1 with tree:=y.2.1,size:=((QG l).length:Nat)}=true:=fun hy=>by
  obtain⟨⟨b1,b2,b3,b4⟩,b5,b6⟩:=hb hy;obtain⟨c1,c2,_⟩:=QkI (w':=y.1) (E':=Q7 y.1.st y.2.1) hop b3 (by omega) (b2.perm (by grind))
  grind [QsI]
 obtain⟨d1,d2,d3,d4,d5⟩:=QmI (f:=(y.1,f.2.1,!y.2.2)) hid (fun e=>(key (by grind)).1) (fun e _=>(key (by grind)).2.2.1) hok
 grind
theorem QtM:Q8 Qd=false:=by decide
theorem QfA(w:Pl.Sto):Qbr w ⟨Pl.hole,0,0⟩/\Q7 w.st ⟨Pl.hole,0,0⟩=[]:=by
 have e:=leaves0 w.st (t:=⟨Pl.hole,0,0⟩) rfl;refine⟨⟨⟨by decide,by decide,QdA,by decide,by decide⟩,rfl,by rw[e],by grind [Qdj],fun i _=>?_⟩,?_⟩
 ·grind [Qe]
 grind [Q7,QfZ,Qr,Qdj]
def Qay(w:Pl.Sto)(t:Pl.Tree)(id:Nat)(l:List Pl.Ptr)(many:Nat):Q4:=
 if(Qm (w.freeL l) t id []).2.2 then QM (Qm (w.freeL l) t id []).1 (Qm (w.freeL l) t id []).2.1 many else Qm (w.freeL l) t id []
theorem Qss{id many:Nat}{l:List Pl.Ptr}(h:QbE w t)(hid:id<16)(hl:l.Perm (Qbh w.st (Qn w t id)))(hm:many<=16)(hok:(Qay w t id l many).2.2=true):
 QbE (Qay w t id l many).1 (Qay w t id l many).2.1/\(Qay w t id l many).2.1.many=many:=by
 have hop:=Qhz h hid
 have hlive:QU w (l++(Q7 w.st t++Qb6 w t id)):=hop.live.perm (by
  grind)
 obtain⟨g1,g2⟩:=Qib l hlive;have htx:=QgK l w;obtain⟨c1,c2,c3,c4⟩:=QkI (w':=w.freeL l) (E':=[]) hop g2 (by omega) (by grind);unfold Qay at hok⊢;generalize w.freeL l=u at*;split at hok;rotate_left
 ·grind
 rename_i h1;rw[if_pos h1];have hz:Q6 Qd=[]:=by grind [Q6,QtM]
 have hcl:=Qor (n:=Qd) hid (w:=u) (t:=t) (by rw[show Qd.tree=⟨Pl.hole,0,0⟩ from rfl,(QfA u).2];exact c1) (fun e=>by grind [QtM]) (by grind);rw[hz] at hcl;obtain⟨d1,d2,d3,d4⟩:=hcl;generalize Qm u t id []=y at*;obtain⟨e1,e2,e3,e4,e5,e6,e7⟩:=Qr4 d1.tr d1.live hm hok;generalize QM y.1 y.2.1 many=z at*;refine⟨⟨e1,?_,?_⟩,e2⟩
 ·intro k hk hn
  by_cases hkm:k<many
  ·have hnd:Qn z.1 z.2.1 k=Qn y.1 y.2.1 k:=by
    unfold Qn;rw[e6 k hkm,Qmj];cases hh:Pl.ptrHole ((Qe y.1.st y.2.1).getD k Pl.hole)
    ·refine .inr (e7 _ (QeA.2 ⟨?_,hh⟩))
     have hwl:=Qd3 y.1.st d1.tr.good.hi;rw[A2,A0 (by omega)];exact AO.2 ⟨k,by omega,rfl⟩
    grind
   rw[hnd] at hn⊢;have hT:=d1.nod k hk hn;refine(QeS (w':=z.1) hT (fun q hq=>e4 q ?_) (by omega)).1
   grind [Qcb,Qbh,QeW]
  ·unfold Qn at hn
   rw[e1.top k (by omega),Qfq,Qip] at hn;cases hn
 ·have hsub:(Qcb z.1 z.2.1).Sublist (Qcb y.1 y.2.1):=by
   unfold Qcb
   have hg: ∀l:List Nat,(∀k∈l,k<16)->(l.flatMap fun k=>Qbh z.1.st (Qn z.1 z.2.1 k)).Sublist (l.flatMap fun k=>Qbh y.1.st (Qn y.1 y.2.1 k)):=by
    intro l;induction l with
    |nil=>grind
    |cons k l ih=>
     intro hl;rw[AC,AC];refine BA ?_ (ih fun j hj=>hl j (Ac _ hj));have hk:=hl k Ai
     by_cases hkm:k<many
     ·have hnd:Qn z.1 z.2.1 k=Qn y.1 y.2.1 k:=by
       unfold Qn;rw[e6 k hkm,Qmj];cases hh:Pl.ptrHole ((Qe y.1.st y.2.1).getD k Pl.hole)
       ·refine .inr (e7 _ (QeA.2 ⟨?_,hh⟩))
        have hwl:=Qd3 y.1.st d1.tr.good.hi;rw[A2,A0 (by omega)];exact AO.2 ⟨k,by omega,rfl⟩
       grind
      rw[hnd];unfold Qbh;cases hn:(Qn y.1 y.2.1 k).2
      ·grind
      ·simp only[if_true]
       rw[(QeS (w':=z.1) (d1.nod k hk hn) (fun q hq=>e4 q (by
        grind [Qcb,Qbh,QeW])) (by omega)).2.2.2.1]
       grind
     ·have:Qbh z.1.st (Qn z.1 z.2.1 k)=[]:=by
       unfold Qn;rw[e1.top k (by omega),Qfq,Qip];rfl
      grind
   grind
  obtain⟨R,hR⟩:=Qnm hsub;refine e3.sub (R:=R) ?_
  grind
theorem Qny: ∀(n m:Nat) (s:List UInt8),s.length<=n->s.length<=m->Qcs n s=Qcs m s
 |0,0,s,_,_=>rfl
 |0,m+1,s,h,_=>by
  have:s=[]:=AH.1 (by omega);subst this;rfl
 |n+1,0,s,_,h=>by
  have:s=[]:=AH.1 (by omega);subst this;rfl
 |n+1,m+1,s,h1,h2=>by
  unfold Qcs;split
  ·rfl
  ·rename_i h0
   have:=AF.2 h0;rw[Qny n m (s.drop 128) (by grind) (by grind)]
theorem QnU{s:List UInt8}(h:s≠[]):QaG s=s.take 128::QaG (s.drop 128):=by
 have:=AF.2 h;unfold QaG;obtain⟨n,hn⟩: ∃n,s.length=n+1:=⟨s.length -1,by omega⟩
 grind [Qcs,Qny]
theorem QnT:QaG []=[]:=rfl
theorem Qpb{s:List UInt8}(h:s≠[])(h2:s.length<=128):QaG s=[s]:=by grind [QnU,A4,QnT]
def QrY(s:List UInt8)(hs:s.length<=1000000000000):Pure A1 305 [dS s] (tStrs (QaG s)):=by
 refine kE ?_
 repeat refine kA ?_
 refine Qo (fun m st=> ∃(g:Nat) (out:List (List UInt8)) (r:List UInt8),m=r.length/\out.length+r.length<=s.length/\AM (out++QaG r=QaG s)/\st=⟨22,[(3,.osl 0 g 0 out.length),(0,.d (dS r))],[.arr g 1 9 (out.map fun s=>[dS s])]⟩) [3,0] 1 s.length ⟨0,[],s,rfl,by simp,Pm.hid rfl,rfl⟩ (round:=?_);rintro m st ⟨g,out,r,rfl,hlen,hO,rfl⟩
 repeat refine kG ?_
 cases q3:decide ((r.length:Int)>128)
 ·have hr:r.length<=128:=by simp at q3;omega
  have h1:AM (r=[]->out=QaG s):=Pm.hid fun h=>by have:=hO.out;rw[h,QnT,AU] at this;exact this
  have h2:AM (r≠[]->out++[r]=QaG s):=Pm.hid fun h=>by have:=hO.out;rw[Qpb h hr] at this;exact this
  clear hO;generalize QaG s=res at*
  repeat' first|refine kS ?_|refine QV Ty.h rfl Ty.h (hb:=?_) (kk:=?_)|refine kU ?_|refine kV ?_ ?_<;>intro q|fail
  all_goals first
   |(simp;omega)
   |((refine Qa 0 (h:=?_);refine Qb (hx:=?_))
     first
      |(rw[<-h2.out (by simpa using q)];simp[A4];done)
      |(rw[<-h1.out (by simpa using q)];simp[A4];done))
 have hr:128<r.length:=by simp at q3;omega
 have h2:AM (QaG r=r.take 128::QaG (r.drop 128)):=Pm.hid (QnU (by intro e;rw[e] at hr;simp at hr))
 repeat' first|refine kS ?_|refine QV Ty.h rfl Ty.h (hb:=?_) (kk:=?_)|refine qS (QfH rfl rfl rfl (by omega) (by omega)) ?_|refine qS (QfG rfl rfl rfl (by omega) (by omega)) ?_|refine kU ?_|fail
 all_goals first
  |(simp;omega)
  |(refine Qh (r.drop 128).length (by rw[Aq];omega) ⟨g+1,out++[r.take 128],r.drop 128,rfl,by simp;omega,Pm.hid (by rw[<-hO.out,h2.out];simp),?_⟩
    simp[keepE,go_sem];done)
def Qal(l:List (List UInt8))(but:Nat):Nat:=(A6 l.length).foldl (fun n k=>if k≠but/\l.getD k []≠[] then k+1 else n) 0
theorem QgI(l:List (List UInt8))(but:Nat):Qal l but<=l.length:=by
 have: ∀n,n<=l.length->(A6 n).foldl (fun n k=>if k≠but/\l.getD k []≠[] then k+1 else n) 0<=n:=by
  intro n;induction n with
  |zero=>grind
  |succ n ih=>
   grind [AW]
 exact this _ (Av _)
theorem QoJ{l:List (List UInt8)}{but:Nat}(hk:k<l.length)(h1:k≠but)(h2:l.getD k []≠[]):1<=Qal l but:=by
 have: ∀n,k<n->1<=(A6 n).foldl (fun n k=>if k≠but/\l.getD k []≠[] then k+1 else n) 0:=by
  intro n;induction n with
  |zero=>omega
  |succ n ih=>
   intro h;rw[AW,AP];simp only[Ax,B0]
   grind
 exact this _ hk
theorem QtF(s:Pm.Store)(hg:QP s)(t:Pl.Tree)(ht:Qx t)(but:Nat):Pure A1 280 [dSt s,dTree t,dI but] (dI (Qal (Qc s t) but)):=by
 have c1:=Qe3 s hg t ht;have hl:=texts_len s ht;have hm0:=ht.manyLo;have hm1:=ht.manyHi;generalize Qc s t=l at*;refine kE ?_;refine Qa 0 (h:=?_);refine Qa 1 (h:=?_)
 repeat refine kA ?_
 refine Qo (fun m st=> ∃(k n:Nat),k<=l.length/\m=l.length -k/\n<=k/\AM (n=(A6 k).foldl (fun n k=>if k≠but/\l.getD k []≠[] then k+1 else n) 0)/\st=⟨32,[(9,.d (dI k)),(8,.d (tStrs l)),(7,.d (dI n)),(4,.d (.pd (rTree t))),(2,.d (dI but))],[.row 1 [],.row 1 []]⟩) [9,8,7,4,2] 2 l.length ⟨0,0,by omega,rfl,by omega,Pm.hid rfl,rfl⟩ (round:=?_);rintro m st ⟨k,n,hk,rfl,hnk,hn,rfl⟩
 repeat refine kG ?_
 cases q4:decide ((k:Int)<t.many)
 ·repeat refine kA ?_
  refine Qb (hx:=?_);have:k=l.length:=by simp at q4;omega
  rw[hn.out,this];rfl
 have hk2:k<l.length:=by simp at q4;omega
 obtain⟨x,hx⟩: ∃x,l[k]? =some x:=⟨_,A0 hk2⟩;have hr:=Qt (f:=fun s=>[dS s]) hx
 have T:AM ((A6 (k+1)).foldl (fun n k=>if k≠but/\l.getD k []≠[] then k+1 else n) 0=if k≠but/\x≠[] then k+1 else n):=Pm.hid (by
  rw[AW,AP,<-hn.out];simp only[Ax,B0]
  rw[A2,hx];rfl)
 clear hx hn
 repeat' first|refine kS ?_|refine qS (iy hr) ?_|refine kU ?_|refine kV ?_ ?_<;>intro q|fail
 all_goals first|refine Qh (l.length -(k+1)) (by omega) ⟨k+1,k+1,by omega,rfl,by omega,Pm.hid (by rw[T.out,if_pos (by simp_all;omega)]),?_⟩;simp[keepE,go_sem];done|refine Qh (l.length -(k+1)) (by omega) ⟨k+1,n,by omega,rfl,by omega,Pm.hid (by rw[T.out,if_neg (by simp_all;omega)]),?_⟩;simp[keepE,go_sem];done|refine Qh (l.length -(k+1)) (by omega) ⟨k+1,k+1,by omega,rfl,by omega,Pm.hid (by rw[T.out,if_pos (by simp_all)]),?_⟩;simp[keepE,go_sem];done|refine Qh (l.length -(k+1)) (by omega) ⟨k+1,n,by omega,rfl,by omega,Pm.hid (by rw[T.out,if_neg (by simp_all)]),?_⟩;simp[keepE,go_sem];done
def QbN(l:List (List UInt8)):Option Nat:=(A6 16).find? fun k=>decide (l.length<=k)||l.getD k []==[]
theorem Qi7{l:List (List UInt8)}(h:QbN l=some k):k<16/\l.getD k []=[]:=by
 have h1:=List.mem_of_find?_eq_some h;have h2:=List.find?_some h
 grind
theorem QmL{p:Nat->Bool}(h: ∀i,i<16->p i=false):(A6 16).find? p=none:=by grind
theorem QmK{p:Nat->Bool}(h: ∀i,i<k->p i=false)(hk:k<16)(hp:p k=true):(A6 16).find? p=some k:=by simp_all
def QtG(s:Pm.Store)(hg:QP s)(t:Pl.Tree)(ht:Qx t):Pure A1 216 [dSt s,dTree t] (dI (QcH (QbN (Qc s t)))):=by
 have c1:=Qe3 s hg t ht;have hl:=texts_len s ht;have hm0:=ht.manyLo;have hm1:=ht.manyHi;generalize Qc s t=l at*;refine kE ?_;refine Qa 0 (h:=?_);refine Qa 1 (h:=?_)
 repeat refine kA ?_
 refine Qo (fun m st=> ∃k:Nat,k<=16/\m=16 -k/\AM (∀i,i<k->(decide (l.length<=i)||l.getD i []==[])=false)/\st=⟨26,[(6,.d (dI k)),(5,.d (tStrs l))],[.row 1 [],.row 1 []]⟩) [6,5] 2 16 ⟨0,by omega,rfl,Pm.hid (fun i hi=>by omega),rfl⟩ (round:=?_);rintro m st ⟨k,hk,rfl,hA,rfl⟩
 repeat refine kG ?_
 cases q4:decide ((k:Int)<16)
 ·have:k=16:=by simp at q4;omega
  have hres:AM (QbN l=none):=Pm.hid (QmL fun i hi=>hA.out i (by omega))
  repeat refine kA ?_
  all_goals exact Qb (hx:=by rw[hres.out];rfl)
 have hk2:k<16:=by simp at q4;omega
 have F:AM ((decide (l.length<=k)||l.getD k []==[])=true->QbN l=some k):=Pm.hid fun h=>QmK hA.out hk2 h
 have T:AM ((decide (l.length<=k)||l.getD k []==[])=false-> ∀i,i<k+1->(decide (l.length<=i)||l.getD i []==[])=false):=Pm.hid fun h i hi=>by
  by_cases hik:i=k
  ·rw[hik];exact h
  ·exact hA.out i (by omega)
 clear hA
 by_cases hkl:k<l.length
 ·obtain⟨x,hx⟩: ∃x,l[k]? =some x:=⟨_,A0 hkl⟩
  have hr:=Qt (f:=fun s=>[dS s]) hx;rw[A2,hx,Ar,decide_eq_false (by omega),B2] at F T;clear hx
  repeat' first|refine kS ?_|refine qS (iy hr) ?_|refine kU ?_|refine kV ?_ ?_<;>intro q|fail
  all_goals first|exfalso;simp only[decide_eq_true_eq] at*;omega|exact Qb (hx:=by rw[F.out (by assumption)];rfl)|refine Qh (16 -(k+1)) (by omega) ⟨k+1,by omega,rfl,Pm.hid (T.out (by assumption)),?_⟩;simp[keepE,go_sem];done
 ·rw[decide_eq_true (by omega),Bool.true_or] at F
  repeat' first|refine kA ?_|refine kV ?_ ?_<;>intro q|fail
  all_goals first|exact Qb (hx:=by rw[F.out rfl];rfl)|exfalso;simp only[decide_eq_false_iff_not] at*;omega
def QsY:(A1.info? 5).map (fun i=>(i.zero,i.size,i.bytes))=some (some (.int .u8 0),1,1):=by kernel_rfl
def alZeros(z:Int)(h:z<=100000):Pure A1 176 [dI z] (dS (A3 z.toNat 0)):=by
 refine Qdv (vs:=[.int .i64 z]) (x:= .string ⟨(A3 z.toNat (0:UInt8)).toArray⟩) rfl fun w _=>?_
 have hmx: ∃n:Nat,z.toNat=n/\max 0 z=(n:Int)/\n<=100000:=⟨z.toNat,rfl,by omega,by omega⟩;obtain⟨n,hn,hm,hnl⟩:=hmx;rw[hn];have hso:strOfNums (A3 n 0)=⟨(A3 n (0:UInt8)).toArray⟩:=by unfold strOfNums;rw[List.map_replicate];rfl
 have hmk:=Pm.QtP (P:=A1) 22 5 _ 1 1 Am QsY n (by omega) (by omega) w
 have hcv:=run_convert_bytes_arg (P:=A1) (w.alloc (.cells (madeCells (Value.int .u8 0).cells (n*1)) 5)) 22 5 Am Tryz.underlying5 w.heap.size 0 n n (A3 n 0) (by simp) (fun i hi=>by
  rw[Aj,cell_of_row _ _ i _ _ _ (QdP _ _)]
  simp[madeCells,B7,Nat.mod_one,A2,hi]) 9 Tryz.underlying9
 simp only[B7,Nat.mul_one] at hmk hcv;rw[hso] at hcv;clear hso;rw[<-hm] at hmk;clear h hm hn hnl
 go_enter Tryz.func176,Tryz.ntmps176
 go_wp2
 all_goals
  go_ret
  exact⟨rfl,Pm.bnew _ _⟩
def QbR(size:Int)(l:List (List UInt8)):Nat->List UInt8
 |0=>[]
 |k+1=>QbR size l k++l.getD k []++A3 (Qa6 size k -(l.getD k []).length).toNat 0
theorem QpH(size:Int)(l:List (List UInt8))(h: ∀x∈l,x.length<=128): ∀k,(QbR size l k).length<=140*k
 :=by intro l;induction l<;>grind [QbR,Qa6]
theorem t13_ge(size:Int)(l:List (List UInt8)): ∀k:Nat,(if size<12*k then size else 12*k)<=((QbR size l k).length:Int)
 :=by intro l;induction l<;>grind [QbR,Qa6]
def QlX(s:Pm.Store)(hg:QP s)(n:Qj)(ht:Qx n.tree)(hs:0<=n.size/\n.size<=2048):Pure A1 107 [dSt s,dNode n] (dS (QbR n.size (Qc s n.tree) n.tree.many.toNat)):=by
 have c:=Qe3 s hg n.tree ht;have hl:=texts_len s ht;have hx1:=texts_le s hg n.tree;have hm:=ht.manyHi;have hm0:=ht.manyLo;clear ht;generalize Qc s n.tree=l at*;obtain⟨kind,links,size,⟨⟨p1,p2,p3,p4,p5⟩,depth,many⟩⟩:=n;simp only at hs hl hm hm0 c⊢;rw[<-hl];refine kE ?_;refine Qa 0 (h:=?_);refine Qa 1 (h:=?_)
 repeat refine kA ?_
 refine Qo (fun m st=> ∃(k:Nat),k<=l.length/\m=16 -k/\
  st=⟨37,[(6,.d (tStrs l)),(7,.d (dI k)),(5,.d (dS (QbR size l k))),(3,.d (.pd (rNode ⟨kind,links,size,⟨⟨p1,p2,p3,p4,p5⟩,depth,many⟩⟩)))],[]⟩) [6,7,5,3] 0 16 ⟨0,by omega,rfl,rfl⟩ (round:=?_)
 rintro m st ⟨k,hk,rfl,rfl⟩
 repeat refine kG ?_
 cases q4:decide ((k:Int)<many)
 ·repeat refine kA ?_
  refine Qb (hx:=?_);have:k=l.length:=by simp at q4;omega
  rw[this]
 have hk2:k<l.length:=by simp at q4;omega
 obtain⟨x,hx⟩: ∃x,l[k]? =some x:=⟨_,A0 hk2⟩;have hr:=Qt (f:=fun s=>[dS s]) hx;have hxl:=hx1 x (A5 hx);have hd:l.getD k []=x:=by rw[A2,hx];rfl
 have hst:AM (QbR size l (k+1)=QbR size l k++x++A3 (Qa6 size k -x.length).toNat 0):=Pm.hid (by rw[<-hd];rfl);have c13:=QkH size k hs.1 hs.2 (by omega);have h12:Qa6 size k<=12:=by unfold Qa6;split<;>omega
 have h11: -2000<=Qa6 size k:=by unfold Qa6;split<;>omega
 have cz:=alZeros (Qa6 size k -x.length) (by omega);have hpl:=QpH size l hx1 k;have hlr:(A3 (Qa6 size k -x.length).toNat (0:UInt8)).length<=12:=by rw[List.length_replicate];omega
 clear hx hx1 hd;generalize QbR size l k=tk at*;generalize A3 (Qa6 size k -x.length).toNat (0:UInt8)=zs at*
 repeat' first|refine kS ?_|refine qS (iy hr) ?_|refine qS (QcX rfl rfl (by first|omega|(simp only[AG];omega))) ?_|refine kU ?_|fail
 all_goals first
  |(refine Qh (16 -(k+1)) (by omega) ⟨k+1,by omega,rfl,?_⟩
    rw[hst.out]
    simp[keepE,go_sem];done)
theorem QfC{S:Nat->Prop}{g:Nat}{len:Nat}{v:B8}(hk:k≠3)(h:Rel σ S (hS g1 w') wd (.osl k g 0 len) v):Rel σ S (hS g2 w') wd (.osl k g 0 len) v:=by
 cases h with
 |osl _ _ _ _ _ ho g' sz T rows hb hg h=>
  refine .osl _ _ _ _ _ ho g' sz T rows ?_ hg h
  grind
def Qs6{S:Nat->Prop}{len:Nat}{v:B8}(h:Rel σ S (hS g1 w') wd (.osl 3 g1 0 len) v):Rel σ S (hS g2 w') wd (.osl 3 g2 0 len) v:=by
 cases h with
 |osl _ _ _ _ _ ho g' sz T rows hb hg h=>
  cases hb;exact .osl _ _ _ _ _ ho _ _ _ _ rfl (Av _) fun _=>h rfl
def QgA{S:Nat->Prop}{x:D}{v:B8}(h:Rel σ S (hS g1 w') wd (.d x) v):Rel σ S (hS g2 w') wd (.d x) v:=by
 cases h with
 |d _ _ h=>exact .d _ _ h
def rel_oS{S:Nat->Prop}{v:B8}(h:Rel σ S (hS g1 w') wd (oS g1 w2) v):Rel σ S (hS g2 w') wd (oS g2 w2) v:=by
 cases h with
 |agg _ cs hl h=>
  refine .agg _ cs hl fun i d x hd hx=>?_
  match i,hd,hx with
  |0,hd,hx=>cases hd;exact QfC (by decide) (h 0 _ x rfl hx)
  |1,hd,hx=>cases hd;exact QfC (by decide) (h 1 _ x rfl hx)
  |2,hd,hx=>cases hd;exact QfC (by decide) (h 2 _ x rfl hx)
  |3,hd,hx=>cases hd;exact QgA (h 3 _ x rfl hx)
  |4,hd,hx=>cases hd;exact Qs6 (h 4 _ x rfl hx)
  |5,hd,hx=>cases hd;exact QgA (h 5 _ x rfl hx)
  |6,hd,hx=>cases hd;exact QfC (by decide) (h 6 _ x rfl hx)
  |7,hd,hx=>cases hd;exact QgA (h 7 _ x rfl hx)
  |i+8,hd,hx=>cases hd
def QfU{S:Nat->Prop}{b:D}{v:B8}(h:Rel σ S (hS g1 w') wd (.tup [oS g1 w2,.d a,.d b]) v):Rel σ S (hS g2 w') wd (.tup [oS g2 w2,.d a,.d b]) v:=by
 cases h with
 |tup _ cs hl h=>
  refine .tup _ cs hl fun i d x hd hx=>?_
  match i,hd,hx with
  |0,hd,hx=>cases hd;exact rel_oS (h 0 _ x rfl hx)
  |1,hd,hx=>cases hd;exact QgA (h 1 _ x rfl hx)
  |2,hd,hx=>cases hd;exact QgA (h 2 _ x rfl hx)
  |i+3,hd,hx=>cases hd
def sm_tag{B:Bs}{S:Nat->Prop}(h:Sm B σ S (hS g1 w') wd):Sm B σ S (hS g2 w') wd:=
 {h with
  blk:=fun k C hC=>by
   match k,hC with
   |0,hC=>cases hC;exact h.blk 0 _ rfl
   |1,hC=>cases hC;exact h.blk 1 _ rfl
   |2,hC=>cases hC;exact h.blk 2 _ rfl
   |3,hC=>cases hC;exact h.blk 3 _ rfl
   |4,hC=>cases hC;exact h.blk 4 _ rfl
   |k+5,hC=>cases hC}
theorem DoesE.tag{f:FuncId}{g:Nat}{X:Nat->AV}{C:Nat->Prop}(h:DoesE A1 f args (hS g w) (gS g w) (fun x H=> ∃g',C g'/\x=X g'/\H=hS g' w'))
 (hX: ∀{σ:Sg} {S:Nat->Prop} {g1 g2:Nat} {wd:World} {v:B8},Rel σ S (hS g1 w') wd (X g1) v->Rel σ S (hS g2 w') wd (X g2) v):
 DoesE A1 f args (hS g w) (gS g w) (fun x H=>x=X (g+1)/\H=hS (g+1) w'):=by
 intro B σ S w0 cargs gvs h1 h2 h3 h4 h5 h6;refine(h B σ S w0 cargs gvs h1 h2 h3 h4 h5 h6).mono ?_;rintro _ _ ⟨x,H1,⟨g',h0,rfl,rfl⟩,h7,v,σ',S',rfl,h8,h9,h10⟩;refine⟨_,_,⟨rfl,rfl⟩,fun i C0 hC=>?_,v,σ',S',rfl,sm_tag h8,hX h9,fun i d v hd hv=>?_⟩
 ·obtain⟨C',e1,e2⟩:=h7 i C0 hC
  match i,hC,e1 with
  |0,hC,e1=>grind
  |1,hC,e1=>grind
  |2,hC,e1=>grind
  |3,hC,e1=>cases hC;exact⟨_,rfl,rfl,rfl,.inl (Nat.lt_succ_self g)⟩
  |4,hC,e1=>grind
  |i+5,hC,e1=>cases hC
 ·have e:=h10 i d v hd hv
  match i,hd with
  |0,hd=>cases hd;exact QfC (by decide) e
  |1,hd=>cases hd;exact QfC (by decide) e
  |2,hd=>cases hd;exact QfC (by decide) e
  |3,hd=>cases hd;cases e with
   |osl _ _ _ _ _ ho g2 sz T rows hb hg h=>exact .osl _ _ _ _ _ ho _ _ _ _ rfl (Nat.le_succ g) fun h=>absurd h (by omega)
  |4,hd=>cases hd;exact QfC (by decide) e
  |i+5,hd=>cases hd
theorem DoesE.tag3{f:FuncId}{g:Nat}{ok:Bool}(h:DoesE A1 f args (hS g w) (gS g w) (fun x H=> ∃g',(ok=false->g'=g)/\x= .tup [oS g' w2,.d a,.d (dB ok)]/\H=hS g' w')):
 DoesE A1 f args (hS g w) (gS g w) (fun x H=>x= .tup [oS (if ok then g+1 else g) w2,.d a,.d (dB ok)]/\H=hS (if ok then g+1 else g) w'):=by
 cases ok
 ·grind
 ·exact h.tag QfU
def QtE(l:List Qq)(hb: ∀e∈l,e.1.length<=4/\0<=e.2/\e.2<=15)(hl:l.length<=1000):Pure A1 254 [tEnts l] (dS (QG l)):=by
 refine kB ?_
 repeat refine kA ?_
 refine Qo (fun m st=> ∃k:Nat,k<=l.length/\m=l.length -k/\st=⟨28,[(3,.d (dS (QG (l.take k)))),(4,.d (dI k)),(0,.d (tEnts l))],[]⟩) [3,4,0] 0 l.length ⟨0,by omega,rfl,rfl⟩ (round:=?_);rintro m st ⟨k,hk,rfl,rfl⟩
 repeat refine kG ?_
 cases q3:decide ((k:Int)<(l.length:Int))
 ·repeat refine kA ?_
  refine Qb (hx:=?_);have:k=l.length:=by simp at q3;omega
  rw[this,AJ]
 have hk2:k<l.length:=by simp at q3;omega
 obtain⟨x,hx⟩: ∃x,l[k]? =some x:=⟨_,A0 hk2⟩;have hr:=Qt (f:=rEnt) hx;have hlen:=QiG (l:=l.take k) fun e he=>hb e (List.mem_of_mem_take he)
 rw[AE] at hlen;have hxb:=hb x (A5 hx);have T:AM (QG (l.take (k+1))=QG (l.take k)++x.1++[61]++Pl.dec x.2.toNat++[59]):=Pm.hid (by rw[A7,hx];simp[QG,Qas]);have hdl:=Pl.QcU 8 x.2.toNat (by omega);have c:=al6Dec x.2.toNat (by omega);rw[show((x.2.toNat:Nat):Int)=x.2 by omega] at c;clear hx hb;generalize QG (l.take k)=out at*;generalize Pl.dec x.2.toNat=d at*;obtain⟨nm,id⟩:=x;simp only at hxb c T hr
 repeat' first|refine kS ?_|refine qD (iy hr) ?_|refine qD (QcX (m:=[61]) rfl rfl (by first|omega|(simp;omega))) ?_|refine qD (QcX (m:=[59]) rfl rfl (by first|omega|(simp;omega))) ?_|refine qD (QcX rfl rfl (by first|omega|(simp;omega))) ?_|refine kU ?_|fail
 refine Qh (l.length -(k+1)) (by omega) ⟨k+1,by omega,rfl,?_⟩;simp[keepE,go_sem,T.out]
def Qjl(l:List Qq): ∀r∈l.map rEnt,∀d∈r,d.cell=true:=by
 intro r hr d hd;obtain⟨p,_,rfl⟩:=List.mem_map.1 hr;simp at hd;rcases hd with rfl|rfl<;>rfl
def Qon(l:List Qq)(i:Nat)(hi:i<l.length)(hl:l.length<=1000):Pure A1 225 [tEnts l,dI i] (tEnts (l.take i++l.drop (i+1))):=by
 refine kE ?_;have hc1:=Qjl (l.take i);have hc2:=Qjl (l.drop (i+1));have t1:(l.map rEnt).take (i:Int).toNat=(l.take i).map rEnt:=by rw[Int.toNat_natCast,List.map_take]
 have t2:(l.map rEnt).drop ((i:Int)+1).toNat=(l.drop (i+1)).map rEnt:=by rw[show((i:Int)+1).toNat=i+1 by omega,List.map_drop]
 repeat' first|refine kS ?_|(show AWP _ (.region 1 _ _) _ _;refine(Fk.awp_drawF (id:=1) [0,1,2,3,5,6,7,8] [4,9] [(0,.arr 0 2 112 [])] [] ?_))|refine(Fk.aw_fltS 0 rfl rfl rfl rfl rfl ?_)|refine(Fk.aw_fltL (ho:=rfl) (hk:=rfl) (hl:=fun H=>QfX rfl rfl rfl (by omega) (by simp;omega)) (k:=?_))|refine(Fk.aw_fltL (ho:=rfl) (hk:=rfl) (hl:=fun H=>Qiy rfl rfl (by omega)) (k:=?_))|refine(Fk.aw_fltL (ho:=rfl) (hk:=rfl) (hl:=fun H=>QgF rfl rfl rfl (by omega) (by simp;omega)) (k:=?_))|refine(Fk.aw_appM (by kernel_rfl) Ty.h rfl Ty.h (hcell:=?_) (hb:=?_) (kk:=?_))|refine kU ?_|fail
 ·rw[t1];exact hc1
 ·simp;omega
 ·rw[t2];exact hc2
 ·simp;omega
 rw[t1,t2];refine Qa 0 (h:=?_);refine Qb (hx:=?_);simp[A4]
def QcL(l m:List UInt8):Bool:= !(B5 l m||l==m)
def Qar:List Qq->Qq->List Qq
 |[],e=>[e]
 |x::l,e=>if QcL x.1 e.1 then e::x::l else x::Qar l e
def QjO(x e:Qq)(l:List Qq):Qar (x::l) e=if QcL x.1 e.1 then e::x::l else x::Qar l e:=rfl
theorem Qsc{e x:Qq}: ∀{l:List Qq},x∈Qar l e->x=e∨x∈l
 :=by intro l;induction l<;>grind [Qar]
theorem Qsd(e:Qq): ∀l:List Qq,(Qar l e).length=l.length+1
 :=by intro l;induction l<;>grind [Qar]
def Qq0{P:Program}{dst:Option Tmp}{ty:TypeId}{pos:String}{after:Array Edge}{gd:Option (Nat×Bool)}{env:List (Nat×AV)}{H:List Blk}{T T':TypeId}{x y:Operand}{l m:List UInt8}(hx:aval env x= .d (.v (.string ⟨l.toArray⟩)))(hy:aval env y= .d (.v (.string ⟨m.toArray⟩))):
 Loc P ⟨dst,.binOp .gtr T x y T',ty,pos,after,gd⟩ env H (.d (.v (.bool (QcL l m)))) none:=
 loc_bin' (X:= .string ⟨l.toArray⟩) (Y:= .string ⟨m.toArray⟩) (by rw[hx];rfl) (by rw[hy];rfl) fun w=>by
  rw[Sem.run_bind,QfK,Result.andThen_ok];simp only[binOp,Op.stringOp,QhJ];rfl
def al12Add(l:List Qq)(e:Qq)(hl:l.length<=1000):Pure A1 220 [tEnts l,.agg (rEnt e)] (tEnts (Qar l e)):=by
 refine kE ?_;refine Qa 0 (h:=?_)
 repeat refine kA ?_
 refine Qo (fun m st=> ∃(k g:Nat) (out:List Qq) (done:Bool),k<=l.length/\m=l.length -k/\out.length<=k+done.toNat/\AM (done=false->Qar l e=out++Qar (l.drop k) e)/\AM (done=true->Qar l e=out++l.drop k)/\st=⟨45,[(7,.d (dI k)),(5,.osl 1 g 0 out.length),(6,.d (dB done)),(0,.d (tEnts l)),(3,.d (.pd (rEnt e)))],[.row 1 [],.arr g 2 112 (out.map rEnt)]⟩) [7,5,6,0,3] 2 l.length ⟨0,0,[],false,by omega,rfl,by simp,Pm.hid (fun _=>rfl),Pm.hid (fun h=>by cases h),rfl⟩ (round:=?_);rintro m st ⟨k,g,out,done,hk,rfl,hlen,hF,hT,rfl⟩
 repeat refine kG ?_
 cases q3:decide ((k:Int)<(l.length:Int))
 ·have hkl:k=l.length:=by simp at q3;omega
  have hdr:l.drop k=[]:=AR (by omega);rw[hdr] at hF hT;have hF2:AM (done=false->Qar l e=out++[e]):=hF;clear hF;cases done<;>simp only[As,Ay] at hlen
  ·repeat' first|refine kS ?_|refine QV Ty.h rfl Ty.h (hb:=?_) (kk:=?_)|refine kU ?_|fail
   all_goals first|simp;omega|((refine Qa 1 (h:=?_);refine Qb (hx:=?_));rw[hF2.out rfl];simp[A4])
  ·repeat refine kA ?_
   all_goals first|((refine Qa 1 (h:=?_);refine Qb (hx:=?_));rw[hT.out rfl];simp[A4])
 have hk2:k<l.length:=by simp at q3;omega
 obtain⟨x,hx⟩: ∃x,l[k]? =some x:=⟨_,A0 hk2⟩;have hr:=Qt (f:=rEnt) hx;have hdr:l.drop k=x::l.drop (k+1):=by rw[List.drop_eq_getElem_cons hk2];congr 1;rw[A0 hk2] at hx;exact BC hx
 rw[hdr] at hF hT;clear hx hdr;cases done<;>simp only[As,Ay] at hlen
 ·have hA:AM (QcL x.1 e.1=true->Qar l e=(out++[e]++[x])++l.drop (k+1)):=Pm.hid fun h=>by
   have:=hF.out rfl;rw[QjO,if_pos h] at this;rw[this];simp
  have hB:AM (QcL x.1 e.1=false->Qar l e=(out++[x])++Qar (l.drop (k+1)) e):=Pm.hid fun h=>by
   have:=hF.out rfl;rw[QjO,if_neg (by rw[h];decide)] at this;rw[this];simp
  clear hF hT
  repeat' first|refine kS ?_|refine qD (iy hr) ?_|refine qS (iy hr) ?_|refine qD (Qq0 rfl rfl) ?_|refine QV Ty.h rfl Ty.h (hb:=?_) (kk:=?_)|refine kU ?_|refine kV ?_ ?_<;>intro q|fail
  all_goals first|simp;omega|refine Qh (l.length -(k+1)) (by omega) ⟨k+1,g+1+1,out++[e]++[x],true,by omega,rfl,by simp;omega,Pm.hid (fun h=>by cases h),Pm.hid (fun _=>hA.out (by assumption)),?_⟩;simp[keepE,go_sem];done|refine Qh (l.length -(k+1)) (by omega) ⟨k+1,g+1,out++[x],false,by omega,rfl,by simp;omega,Pm.hid (fun _=>hB.out (by assumption)),Pm.hid (fun h=>by cases h),?_⟩;simp[keepE,go_sem];done
 ·have hA:AM (Qar l e=(out++[x])++l.drop (k+1)):=Pm.hid (by rw[hT.out rfl];simp)
  clear hF hT
  repeat' first|refine kS ?_|refine qS (iy hr) ?_|refine QV Ty.h rfl Ty.h (hb:=?_) (kk:=?_)|refine kU ?_|fail
  all_goals first|simp;omega|refine Qh (l.length -(k+1)) (by omega) ⟨k+1,g+1,out++[x],true,by omega,rfl,by simp;omega,Pm.hid (fun h=>by cases h),Pm.hid (fun _=>hA.out),?_⟩;simp[keepE,go_sem];done
end Aw
end
section
namespace Aw
variable{p:Pl.Ptr}{t:Pl.Tree}{k:Nat}{α:Type}
def below4P{s:Pm.Store}{n:Int}(h:(Qi s p n).2=true):(Qi s p n).1.length=4:=by
 unfold Qi at h⊢;split
 ·simp
 ·rename_i h1
  rw[if_neg h1] at h;split at h
  ·rename_i h2
   rw[if_pos h2];split at h
   ·cases h
   ·rename_i h3;rw[if_neg h3];exact QnK h
  ·cases h
theorem Qn2(s:Pm.Store): ∀(n:Nat) (l:List Pl.Ptr),(QaY s n l).2=true->(QaY s n l).1.length=l.length*4^n
 |0,l,_=>by simp[QaY]
 |n+1,l,h=>by
  unfold QaY at h⊢;split at h
  ·rename_i h1
   rw[if_pos h1,Qn2 s n _ h,QqY _ l fun p hp=>below4P (AQ.1 h1 p hp)]
   grind
  ·cases h
theorem Qev{s:Pm.Store}(h:QH s t=true):t.many.toNat<=(QI s t).1.length/\(∀p∈(QI s t).1,Pl.ptrHole p=true∨(Qf s.1 p).2=true)/\Pl.ptrOk t.root=true:=by
 unfold QH at h;simp only[Au,beq_iff_eq] at h;obtain⟨⟨⟨⟨h1,h2⟩,h3⟩,h4⟩,h5⟩:=h;refine⟨?_,fun p hp=>?_,h3⟩
 ·have:=Qn2 s t.depth.toNat [t.root] h4
  unfold QI;rw[this,h2];simp[Pl.inR] at h1
  grind
 ·obtain⟨i,hi,rfl⟩:=Ae hp
  rw[AQ] at h5;have:=h5 ((QI s t).1[i],i) (List.mk_mem_zipIdx_iff_getElem?.2 (A0 hi));unfold Qau at this
  grind
def Qey{s:Pm.Store}(h:QH s t=true):(QD s t).1.map (fun p=>(Qf s.1 p).1)=Qc s t:=by
 unfold QD Qc Qe;rw[if_pos h,List.take_append_of_le_length (Qev h).1]
theorem Qs9{rows:List (List UInt8)}(h:Pl.ptrHole p=true):Qf rows p=([],true):=by unfold Qf;grind
theorem Qer{s:Pm.Store}(h:QH s t=true): ∀p∈(QD s t).1,Pl.ptrOk p=true/\((Qf s.1 p).1=[]↔Pl.ptrHole p=true):=by
 intro p hp
 have hp':p∈(QI s t).1:=by
  unfold QD at hp
  grind
 have hok:=Qiz s (Qev h).2.2 p hp';refine⟨hok,fun e=>?_,fun e=>by rw[Qs9 e]⟩;rcases(Qev h).2.1 p hp' with h1|h1
 ·exact h1
 ·by_cases hh:Pl.ptrHole p=true
  ·exact hh
  ·exfalso
   unfold Qf at e h1;rw[if_neg hh] at e h1;split at h1
   ·rename_i hf
    rw[if_pos hf] at e;simp only at e;rw[e] at hf;unfold QaU at hf;simp only[Au,beq_iff_eq] at hf;have hs:p.size=0:=by grind
    have hok2:=hok;unfold Pl.ptrOk at hok2
    grind
   ·cases h1
theorem Qd9{s:Pm.Store}(h:QH s t=true):(QD s t).1.length=t.many.toNat/\t.many.toNat<=16:=by
 have h1:=(Qev h).1;have h2:=Qdo h;have:=h2.manyHi;unfold QD
 grind
def QaR(x:List UInt8):D:=if x=[] then .v (.pointer none) else .pd (rNode (Qp x).1)
abbrev tNds(l:List (List UInt8)):D:= .sl true 1 (l.map fun x=>[QaR x])
theorem Qmq:Qp []=(Qd,false):=Qlo fun p hp=>QpU hp.2 rfl
theorem QkK{p:α->Bool}{l:List α}{x:α}(hx:l[k]? =some x)(h:(l.take k).all p=true)(hp:p x=true):(l.take (k+1)).all p=true:=by
 rw[A7,hx,List.all_append,h];grind
theorem QlV{p:α->Bool}{l:List α}{x:α}(hx:l[k]? =some x)(hp:p x=false):l.all p=false:=by
 grind
end Aw
end
section
open Go.RowKit
namespace Aw
variable{k:Nat}{α:Type}{out:List Qq}{rest:List UInt8}
attribute [local irreducible] ASeq ADraw AWP Loc
theorem set_mid{A R:List α}{a v:α}(h:A.length=k):(A++a::R).set k v=A++v::R:=by subst h;simp
theorem get_mid{A R:List α}{a:α}(h:A.length=k):(A++a::R)[k]? =some a:=by grind
theorem bNodes(s:Pm.Store)(hg:QP s)(htx:0<=s.2.2.1)(t:Pl.Tree):Pure A1 56 [.pd (rSt s),dTree t] (.tup [tNds (if Qat s t then Qc s t else []),dB (Qat s t)]):=by
 have c1:=bLeaves s hg htx t;have hd:AM (Qat s t=(QH s t&&(Qc s t).all fun x=>(x==[])||((Qp x).2&&QH s (Qp x).1.tree))):=Pm.hid rfl;have hlv:AM (∀t,QH s t=(QD s t).2):=Pm.hid fun t=>by unfold QD;split<;>simp_all
 cases ht:QH s t
 ·have e:QD s t=([],false):=by unfold QD;rw[if_neg (by rw[ht];simp)]
  rw[e] at c1;have hno:Qat s t=false:=by rw[hd.out,ht];rfl
  rw[hno];refine kE ?_;refine Qa 0 (h:=?_)
  repeat refine kA ?_
  refine Qed 4 true 1 (h:=?_);exact Qb (hx:=rfl)
 have e2:(QD s t).2=true:=by rw[<-hlv.out,ht]
 have hlen:=Qd9 ht;have hho:=Pm.hid (Qer ht);have htx2:=Pm.hid (Qey ht);rw[ht,B3] at hd;rw[e2] at c1;rw[<-hlen.1] at hlen;generalize (QD s t).1=l at*;have hl16:l.length<=16:=hlen.2
 have hNo:AM (∀(k:Nat) p,l[k]? =some p->(((Qf s.1 p).1==[])||((Qp (Qf s.1 p).1).2&&QH s (Qp (Qf s.1 p).1).1.tree))=false->Qat s t=false):=Pm.hid fun k p hk h=>by
  rw[hd.out,<-htx2.out,B6];exact QlV hk h
 have hYes:AM (l.all (fun p=>((Qf s.1 p).1==[])||((Qp (Qf s.1 p).1).2&&QH s (Qp (Qf s.1 p).1).1.tree))=true->Qat s t=true/\(Qc s t).map (fun x=>[QaR x])=l.map (fun p=>[QaR (Qf s.1 p).1])):=Pm.hid fun h=>by
  rw[hd.out,<-htx2.out,B6,List.map_map];exact⟨h,rfl⟩
 clear hd htx2 hlen e2 ht;generalize hres:Qat s t=res at*;generalize hrt:Qc s t=txs at*;clear hres hrt;refine kE ?_;refine Qa 0 (h:=?_)
 repeat' first|refine kS ?_|refine stepS2 (QhO Ty.h rfl Ty.h rfl rfl rfl (by simp;omega) (by omega)) (k:=?_)|refine kU ?_|fail
 refine Qo (fun m st=> ∃(k:Nat) (rows:List (List D)),k<=l.length/\m=l.length -k/\rows.length=l.length/\AM (rows=(l.take k).map (fun p=>[QaR (Qf s.1 p).1])++A3 (l.length -k) [D.v (.pointer none)])/\
  AM ((l.take k).all (fun p=>((Qf s.1 p).1==[])||((Qp (Qf s.1 p).1).2&&QH s (Qp (Qf s.1 p).1).1.tree))=true)/\
  st=⟨64,[(0,.d (.pd (rSt s))),(28,.d (tPtrs l)),(29,.d (dI l.length)),(30,.d (dI k)),(8,.osl 1 0 0 l.length)],[.row 1 [],.arr 0 1 92 rows]⟩) [0,28,29,30,8] 2 l.length
  ⟨0,A3 l.length [D.v (.pointer none)],by omega,rfl,by simp,Pm.hid (by simp),Pm.hid rfl,by simp[keepE,go_sem]⟩ (round:=?_)
 rintro m st ⟨k,rows,hk,rfl,hlen,hR,hA,rfl⟩
 repeat refine kG ?_
 cases q4:decide ((k:Int)<(l.length:Int))
 ·repeat refine kA ?_
  refine Qa 1 (h:=?_);refine Qb (hx:=?_);have:k=l.length:=by simp at q4;omega
  subst this;rw[AJ] at hA hR;obtain⟨r1,r2⟩:=hYes.out hA.out;rw[r1,if_pos rfl];show _=D.tup [D.sl true 1 (txs.map fun x=>[QaR x]),_];rw[r2,<-hlen,AJ,hR.out];simp
 have hk2:k<l.length:=by simp at q4;omega
 obtain⟨x,hx⟩: ∃x,l[k]? =some x:=⟨_,A0 hk2⟩;have hr:=Qt (f:=rPtr) hx;obtain⟨ho1,ho2⟩:=hho.out x (A5 hx);have c2:=Qep x;have c3:=bRead s hg x fun _=>ho1
 have c4:=Qt2 (Qf s.1 x).1 (by have:=Qh4 s hg x;unfold Pm.big;omega);have c5:=bLeaves s hg htx (Qp (Qf s.1 x).1).1.tree;have hlt:=hlv.out (Qp (Qf s.1 x).1).1.tree;have hBad:=Pm.hid (hNo.out k x hx);have hGood:AM ((((Qf s.1 x).1==[])||((Qp (Qf s.1 x).1).2&&QH s (Qp (Qf s.1 x).1).1.tree))=true->(l.take (k+1)).all (fun p=>((Qf s.1 p).1==[])||((Qp (Qf s.1 p).1).2&&QH s (Qp (Qf s.1 p).1).1.tree))=true):=Pm.hid fun h=>QkK hx hA.out h
 have hstep:AM (rows.set k [QaR (Qf s.1 x).1]=(l.take (k+1)).map (fun p=>[QaR (Qf s.1 p).1])++A3 (l.length -(k+1)) [D.v (.pointer none)]):=Pm.hid (by
  have e1:l.length -k=(l.length -(k+1))+1:=by omega
  rw[hR.out,e1,Af,set_mid (by rw[AX,AE,Az hk]),A7,hx,List.map_append,Al];rfl)
 have hrow:rows[k]? =some [D.v (.pointer none)]:=by
  have e1:l.length -k=(l.length -(k+1))+1:=by omega
  rw[hR.out,e1,Af,get_mid (by rw[AX,AE,Az hk])]
 have hsame:rows.set k [D.v (.pointer none)]=rows:=by
  apply List.ext_getElem?;intro j
  by_cases hj:k=j
  ·subst hj;rw[List.getElem?_set_self (by omega),hrow]
  ·rw[List.getElem?_set_ne hj]
 have hnd:AM (QaR (Qf s.1 x).1=if(Qf s.1 x).1=[] then D.v (.pointer none) else .pd (rNode (Qp (Qf s.1 x).1).1)):=Pm.hid rfl;have hrow2:rows[0+((k:Nat):Int).toNat]? =some [D.v (.pointer none)]:=by simpa using hrow
 clear hx hho hA hYes hNo hlv hR;cases hh:Pl.ptrHole x;rotate_left
 ·have ht:=ho2.2 hh
  rw[hh] at c2
  repeat' first|refine kS ?_|refine qS (iy hr) ?_|refine kU ?_|fail
  refine Qh (l.length -(k+1)) (by omega) ⟨k+1,rows,by omega,rfl,hlen,Pm.hid ?_,Pm.hid (hGood.out (by rw[ht];rfl)),by simp[keepE,go_sem]⟩;rw[<-hstep.out,hnd.out,if_pos ht,hsame]
 rw[hh] at c2;have ht:(Qf s.1 x).1≠[]:=fun e=>by rw[ho2.1 e] at hh;cases hh
 rw[if_neg ht] at hnd;have hne:((Qf s.1 x).1==[])=false:=by simpa using ht
 rw[hne,B2] at hBad hGood;clear ho1 ho2 hh hsame hne;generalize Qf s.1 x=rb at*;obtain⟨tx,fine⟩:=rb;simp only at*;generalize QD s (Qp tx).1.tree=lp at*;obtain⟨lp1,lp2⟩:=lp;simp only at hlt c5;rw[hlt] at hBad hGood;generalize QaR tx=ndx at*;generalize Qp tx=nn at*;obtain⟨⟨kind,links,size,⟨⟨p1,p2,p3,p4,p5⟩,depth,many⟩⟩,nok⟩:=nn;simp only at*
 repeat' first|refine kS ?_|refine qS (iy hr) ?_|refine(QlO Ty.h rfl rfl hrow2 rfl (kk:=?_))|(show ASeq _ _ _ (⟨none,.store _ (.tmp 61) _,_,_,_,_⟩::_) _;refine Qeo 3 (C:= .row 0 _) (h:=?_))|refine kU ?_|refine kV ?_ ?_<;>intro q|fail
 ·refine Qed 4 true 1 (h:=?_)
  refine Qb (hx:=?_);rw[hBad.out (by simp_all)];rfl
 ·refine Qed 4 true 1 (h:=?_)
  refine Qb (hx:=?_);rw[hBad.out (by simp_all)];rfl
 ·refine Qh (l.length -(k+1)) (by omega) ⟨k+1,rows.set k [ndx],by omega,rfl,by simpa using hlen,hstep,Pm.hid (hGood.out (by simp_all)),?_⟩
  rw[hnd.out];simp[keepE,go_sem]
def Qh3: ∀c:Nat,B9 [0] c=A3 c 0
 |0=>rfl
 |c+1=>by rw[B9,Qh3 c];rfl
def Qty(c:Nat)(hc:c<=1000):Pure A1 118 [dS [0],dI c] (dS (A3 c 0)):=
 Qdv (x:= .string ⟨(A3 c 0).toArray⟩) rfl fun w _=>(Tryz.strings_Repeat ⟨#[0]⟩ c w (by omega) (by show 1*c<=_;omega)).mono fun e w' h=>⟨by rw[<-Qh3];exact h.1,h.2⟩
def Qmf(s:List UInt8):([0]:List UInt8).isSuffixOf s= !(QaP s==s):=by
 rw[AY,List.isSuffixOf_iff_suffix];have:=Qr6 s;rcases List.eq_nil_or_concat s with rfl|⟨l,c,rfl⟩
 ·simp[QnV]
 ·rw[List.concat_eq_append] at*
  have h1:([0]:List UInt8)<:+l++[c]↔c=0:=by
   constructor
   ·rintro⟨t,ht⟩
    have:=List.append_inj' ht rfl;have:=this.2;simp at this;exact this.symm
   ·rintro rfl;exact⟨l,rfl⟩
  rw[h1];simp only[List.getLast?_append,List.getLast?_singleton,Option.some_or,ne_eq,BB] at this
  by_cases hc:c=0
  ·simp[hc] at this⊢;exact this
  ·simp[hc] at this⊢;exact this
def Qa7(size:Int)(k:Int):Int:=if 0<(if size -k*12<12 then size -k*12 else 12) then(if size -k*12<12 then size -k*12 else 12) else 0
def Qpj(size:Int)(k:Nat)(h0:0<=size)(h1:size<=2048)(hk:k<=100):Pure A1 67 [dI size,dI k] (dI (Qa7 size k)):=by
 refine kB ?_
 repeat' first|refine kS ?_|refine qS (Qdu rfl rfl (by omega)) ?_|refine qS (Qmy rfl rfl) ?_|refine qS (Qmz rfl rfl) ?_|refine kU ?_|fail
 exact Qb (hx:=by unfold Qa7;rfl)
theorem Qhi{size:Int}(h:(k:Int)*12<size):Qa7 size k=Qa6 size k:=by
 unfold Qa7 Qa6;split<;>split<;>omega
def Qa1(s:List UInt8)(n:Int):List UInt8×Bool:=if Pl.inR n 0 12&&decide ((s.length:Int)<=n) then(s++A3 (n -s.length).toNat 0,true) else([],false)
def Qpk(s:List UInt8)(n:Int)(hs:s.length<=1000000):Pure A1 66 [dS s,dI n] (.tup [dS (Qa1 s n).1,dB (Qa1 s n).2]):=by
 have hd:=Pm.hid (Qa1.eq_def s n);generalize Qa1 s n=res at*;have c1:=bIn n 0 12;cases hi:Pl.inR n 0 12
 ·rw[hi] at c1 hd
  refine kB ?_
  repeat refine kA ?_
  refine Qb (hx:=?_);rw[hd.out];rfl
 rw[hi] at c1 hd;have hb:0<=n/\n<=12:=by simpa[Pl.inR] using hi
 by_cases hle:(s.length:Int)<=n
 rotate_left
 ·refine kB ?_
  repeat' first|refine kA ?_|refine kV ?_ ?_<;>intro q|fail
  all_goals first|refine Qb (hx:=?_);rw[hd.out,decide_eq_false hle];rfl|exfalso;simp at*;omega
 have c2:=Qty (n -s.length).toNat (by omega);have e2:(((n -s.length).toNat:Nat):Int)=n -s.length:=by omega
 rw[e2] at c2;refine kB ?_
 repeat' first|refine kS ?_|refine qS (QcX rfl rfl (by simp;omega)) ?_|refine kU ?_|refine kV ?_ ?_<;>intro q|fail
 all_goals first|refine Qb (hx:=?_);rw[hd.out,decide_eq_true hle];rfl|exfalso;simp at*;omega
def Qa4(x:Nat):Bool:=decide ((x:Int)<97)||decide ((x:Int)>122)
theorem Qtb(x:Nat)(w:World):Calls A1 146 #[.int .i32 x] w fun e w'=>e= .returned (.bool (Qa4 x))/\w=w':=by
 by_cases h1:(x:Int)<97
 ·have hf:=Pm.hid (show Qa4 x=true by simp[Qa4,h1])
  go_enter An,Ah
  go_wp2
  go_ret
  exact⟨Pm.Qds hf.out.symm,rfl⟩
 ·by_cases h2:(x:Int)>122
  ·have hf:=Pm.hid (show Qa4 x=true by grind [Qa4])
   have h3:(122:Int)<x:=h2
   go_enter An,Ah
   go_wp2
   go_ret
   exact⟨Pm.Qds (by rw[hf.out]),rfl⟩
  ·have hf:=Pm.hid (show Qa4 x=false by grind [Qa4])
   have h3: ¬(122:Int)<x:=h2
   go_enter An,Ah
   go_wp2
   go_ret
   exact⟨Pm.Qds hf.out.symm,rfl⟩
theorem Qi6(s:ByteArray): ∀(f pos:Nat),s.size<=pos+f->(AZ Qa4 true s f pos<0↔ ∀i (h:i<s.size),pos<=i->QaZ s[i]=true)
 |0,pos,hf=>by
  grind [AZ]
 |f+1,pos,hf=>by
  unfold AZ;split
  ·rename_i hlt
   by_cases ha:(s[pos]'hlt).toNat<128
   ·rw[decode_ascii s pos hlt ha]
    by_cases hl:QaZ (s[pos]'hlt)=true
    ·have hb:Qa4 (s[pos]'hlt).toNat=false:=by
      grind [QaZ,Qa4]
     simp only[hb,AN,if_false];rw[Qi6 s f (pos+1) (by omega)]
     grind
    grind [Qa4,QaZ]
   grind [decode_high,Qa4,QaZ]
  grind
def Qk3(s:List UInt8)(hs:s.length<=1000000):PureF A1 145 [.d (dS s),.fn (.func 146) []] (dI (Ad Qa4 true ⟨s.toArray⟩)):=by
 intro B S w cargs hB hS hl hr
 match cargs,hl with
 |[a,b],_=>
  have h0:=hr 0 _ a rfl rfl;have h1:=hr 1 _ b rfl rfl;cases h0 with
  |d _ _ h0=>
   cases h0;cases h1 with
   |fn _ _ cs hl1 _=>
    obtain rfl:cs=[]:=AH.1 hl1.symm;refine(Tryz.strings_IndexFunc_runes 146 #[] Tryz.call146 Qa4 ⟨s.toArray⟩ w (fun W x _ _=>?_)).mono fun e w' h=>⟨_,h.1,h.2,.v _⟩
    exact(Qtb x W).mono fun e w' h=>⟨h.1,0,by rw[<-h.2];rfl⟩
def QoB(s:List UInt8):(decide (Ad Qa4 true ⟨s.toArray⟩<0))=s.all QaZ:=by
 rw[AY,decide_eq_true_eq];unfold Ad;rw[Qi6 _ _ 0 (by omega),AQ];constructor
 ·intro h x hx
  obtain⟨i,hi,rfl⟩:=Ae hx;exact h i hi (Nat.zero_le _)
 ·intro h i hi _
  exact h _ (List.getElem_mem (show i<s.length from hi))
theorem bNameOk(s:List UInt8)(hs:s.length<=1000000):Pure A1 83 [dS s] (dB (QF s)):=by
 have hd:AM (QF s=(s.all QaZ&&Pl.inR s.length 1 4)):=Pm.hid (Qlq s);have c1:=bIn s.length 1 4;have c2:=Qk3 s hs;rw[<-QoB] at hd;generalize Ad Qa4 true ⟨s.toArray⟩=ix at*;generalize Pl.inR s.length 1 4=o at*;refine kB ?_
 repeat' first|refine kS ?_|refine qS (Qeq cK c2 rfl rfl) ?_|refine kU ?_|refine kV ?_ ?_<;>intro q|fail
 all_goals
  refine Qb (hx:=?_);rw[hd.out]
  simp_all
theorem Qps(l:List Qq)(hl:l.length<=Pm.big)(hs: ∀e∈l,e.1.length<=1000000):Pure A1 181 [dEnts l] (dB (Qab l)):=by
 simp only[Pm.big] at hl;have hd:AM (Qab l=((A6 l.length).all (QaD l)&&decide (l.length<=12))):=Pm.hid rfl;refine kB ?_
 repeat refine kA ?_
 refine Qo (fun m st=> ∃k:Nat,k<=l.length/\m=l.length -k/\AM ((A6 k).all (QaD l)=true)/\st=⟨41,[(5,.d (dEnts l)),(6,.d (dI l.length)),(7,.d (dI k)),(0,.d (dEnts l))],[]⟩) [5,6,7,0] 0 l.length ⟨0,by omega,rfl,Pm.hid rfl,by simp[keepE,go_sem]⟩ (round:=?_);rintro m st ⟨k,hk,rfl,hA,rfl⟩
 repeat refine kG ?_
 cases q3:decide ((k:Int)<(l.length:Int))
 ·repeat refine kA ?_
  refine Qb (hx:=?_);have:k=l.length:=by simp at q3;omega
  have h:=hA.out;rw[this] at h;rw[hd.out,h];refine congrArg dB ?_;simp;omega
 have hk2:k<l.length:=by simp at q3;omega
 obtain⟨x,hx⟩: ∃x,l[k]? =some x:=⟨_,A0 hk2⟩;have hr:=Qt (f:=rEnt) hx;obtain⟨y,hy⟩: ∃y,l[k -1]? =some y:=⟨_,A0 (by omega)⟩
 have hr2:AM (0<k->(l.map rEnt)[((k:Int) -1).toNat]? =some (rEnt y)):=fun h=>by
  rw[show((k:Int) -1).toNat=k -1 by omega,List.getElem?_map,hy];rfl
 have he:AM (QaD l k=(QF x.1&&Pl.inR x.2 1 15&&(decide (k=0)||B5 y.1 x.1))):=Pm.hid (by
  unfold QaD;simp only[A2,hx,hy,Ar])
 have T:AM (QaD l k=true->(A6 (k+1)).all (QaD l)=true):=fun h=>Pl.Qdd (p:=QaD l) hA.out h
 have F:AM (QaD l k=false->Qab l=false):=fun h=>by
  rw[hd.out,Pl.Qda (p:=QaD l) hk2 h];rfl
 have c1:=bNameOk x.1 (hs x (A5 hx));have c2:=bIn x.2 1 15;rw[he.out] at T F;clear hx hy hA hd he;generalize QF x.1=o1 at*;generalize Pl.inR x.2 1 15=o2 at*
 repeat' first|refine kS ?_|refine qS (iy hr) ?_|refine qD (QcV Ty.h rfl Ty.h rfl rfl rfl (by simp only[decide_eq_true_eq] at*;omega) (hr2.out (by simp only[decide_eq_true_eq] at*;omega))) ?_|refine qD (Qjv rfl rfl) ?_|refine kU ?_|refine kV ?_ ?_<;>intro q|fail
 all_goals clear c1 c2 hr hr2
 all_goals simp only[decide_eq_true_eq,decide_eq_false_iff_not] at*
 all_goals first|refine Qh (l.length -(k+1)) (by omega) ⟨k+1,by omega,rfl,Pm.hid (T.out ?_),by simp[keepE,go_sem]⟩;clear T F;simp_all;try omega|refine Qb (hx:=?_);rw[F.out ?_];clear T F;simp_all;try omega
def bCut(c:UInt8)(s:List UInt8)(hs:s.length<=4294967280):Pure A1 178 [dS s,dS [c]] (.tup [dS (AA s [c]).1,dS (AA s [c]).2.1,dB (AA s [c]).2.2]):=
 QeY (xs:=[.string ⟨(AA s [c]).1.toArray⟩,.string ⟨(AA s [c]).2.1.toArray⟩,.bool (AA s [c]).2.2]) rfl fun w hL=>by
  obtain⟨m,hm⟩:=hL.maxl;refine(Tryz.strings_Cut ⟨s.toArray⟩ ⟨#[c]⟩ m w (by rw[Pm.QhF];omega) hm).mono fun e w' ⟨he,n,hw⟩=>⟨?_,hw▸Pm.Qg2 w n⟩
  rw[he]
def Qcn(e:Qq):Prop:=(59:UInt8)∉e.1/\(61:UInt8)∉e.1/\0<=e.2/\e.2<1000000000
theorem Qrm{e:Qq}(h:Qcn e):QaA (Qas e)=some e:=by
 obtain⟨h0,h1,h2,h3⟩:=h
 grind [QaA,Qas,Pl.Qeb,Pl.Qe1,QgU,Pl.Qdw]
theorem QgQ(rest:List UInt8): ∀{l:List Qq},(∀e∈l,Qcn e)->Pl.cutB 59 (QG l++rest)=l.map Qas++Pl.cutB 59 rest
 |[],_=>rfl
 |e::l,h=>by
  have h1:QG (e::l)++rest=Qas e++59::(QG l++rest):=by simp[QG]
  have hn:(59:UInt8)∉Qas e:=by
   unfold Qas;intro hm;rcases Aa.1 hm with hm|hm
   ·exact(h e Ai).1 hm
   grind [QgU]
  rw[h1,Pl.Qeb 59 _ _ hn,QgQ rest fun x hx=>h x (Ac _ hx)];rfl
theorem eg_end{s:List UInt8}(hE: ∀e∈out,Qcn e)(hs:s=QG out):QbP s=if Qab out=true then(out,true) else([],false):=by
 have hc:=QgQ [] hE;rw[AU,<-hs] at hc
 rw[Qrp (m:=out) (by grind [Pl.cutB]) fun i e he=>⟨Qas e,by
  grind,Qrm (hE e (A5 he))⟩]
 simp[hs]
theorem eg_pre{s one tail:List UInt8}{p:List Qq}(hE: ∀e∈out,Qcn e)(hs:s=QG out++(one++59::tail))(hn:(59:UInt8)∉one)(h:Qb8 s p): ∃e,p[out.length]? =some e/\one=Qas e:=by
 have hc:=QgQ (one++59::tail) hE;rw[<-hs,<-h.2,QhQ (ent_b h.1),Pl.Qeb 59 _ _ hn] at hc;have hl:=congrArg List.length hc;have hne:=AF.2 (Pl.Qhu 59 tail);simp only[AG,AX,AD,AK] at hl;have hi:=congrArg (fun l=>l[out.length]?) hc
 grind
theorem eg_cut0{s:List UInt8}(hE: ∀e∈out,Qcn e)(hs:s=QG out++rest)(hr:rest≠[])(h:(59:UInt8)∉rest):QbP s=([],false):=by
 refine QnM fun p hp=>hr ?_
 have hc:=QgQ rest hE;rw[<-hs,<-hp.2,QhQ (ent_b hp.1),Pl.Qe1 59 _ h] at hc
 simp_all
structure EgStep(s rest:List UInt8)(out:List Qq)(w v:List UInt8×List UInt8×Bool)(g:Option Nat):Prop where
 bad:(w.2.2&&v.2.2&&g.isSome&&decide (out.length≠12))=false->QbP s=([],false)
 good:(w.2.2&&v.2.2&&g.isSome)=true->s=QG (out++[(v.1,((g.getD 0:Nat):Int))])++w.2.1/\Qcn (v.1,((g.getD 0:Nat):Int))/\w.2.1.length<rest.length
 l1:w.1.length<=rest.length
 l2:w.2.1.length<=rest.length
 l3:v.1.length<=rest.length
 l4:v.2.1.length<=rest.length
theorem eg_next{s:List UInt8}(hE: ∀e∈out,Qcn e)(hs:s=QG out++rest)(hr:rest≠[]):
 EgStep s rest out (AA rest [59]) (AA (AA rest [59]).1 [61]) (Pl.numGet (AA (AA rest [59]).1 [61]).2.1):=by
 have hlen: ∀(c:UInt8) (x:List UInt8),(AA x [c]).1.length<=x.length/\(AA x [c]).2.1.length<=x.length:=fun c x=>by
  by_cases h:c∈x
  ·grind [Pl.QeC,Pl.Qht]
  grind [Pl.QhS]
 have g1:=hlen 59 rest;have g2:=hlen 61 (AA rest [59]).1;refine⟨?_,?_,g1.1,g1.2,by omega,by omega⟩
 ·intro hb
  by_cases h:(59:UInt8)∈rest
  ·obtain⟨one,tail,rfl,hn⟩:=Pl.QeC h
   rw[Pl.Qht hn] at hb;refine QnM fun p hp=>?_
   obtain⟨e,he,rfl⟩:=eg_pre hE hs hn hp;have hb2:=ent_b hp.1 e (A5 he);have hle:out.length<p.length:=(List.getElem?_eq_some_iff.1 he).1;have h12:p.length<=12:=by have:=hp.1;grind [Qab]
   grind [Qas,Pl.Qht,QfW,Pl.Qdw]
  grind [eg_cut0]
 ·intro hb
  by_cases h:(59:UInt8)∈rest
  ·obtain⟨one,tail,rfl,hn⟩:=Pl.QeC h
   rw[Pl.Qht hn] at hb⊢;simp only at hb⊢
   by_cases h6:(61:UInt8)∈one
   ·obtain⟨a,b,rfl,hm⟩:=Pl.QeC h6
    rw[Pl.Qht hm] at hb⊢;simp only[B3] at hb⊢;obtain⟨n,hg⟩:=Option.isSome_iff_exists.1 hb;obtain⟨rfl,hlt⟩:=Pl.Qdz hg;rw[hg];refine⟨?_,⟨fun hc=>hn (A8 _ hc),hm,by simp,by grind⟩,?_⟩
    ·rw[hs];simp[QG,Qas]
    grind
   grind [Pl.QhS]
  grind [Pl.QhS]
theorem Qnb(s:List UInt8)(hs:s.length<=1000000):Pure A1 109 [dS s] (.tup [tEnts (QbP s).1,dB (QbP s).2]):=by
 refine kB ?_
 repeat refine kA ?_
 refine QeR 4 2 112 (h:=?_)
 skip
 refine Qo (fun m st=> ∃(g:Nat) (out:List Qq) (rest:List UInt8),m=rest.length/\AM (s=QG out++rest)/\AM (∀e∈out,Qcn e)/\rest.length<=1000000/\out.length<=12/\AM (∀e∈out,e.1.length<=1000000)/\
  st=⟨61,[(4,.osl 0 g 0 out.length),(5,.d (dS rest))],[.arr g 2 112 (out.map rEnt)]⟩) [4,5] 1 s.length ⟨0,[],s,rfl,Pm.hid rfl,Pm.hid (by simp),hs,by simp,Pm.hid (by simp),rfl⟩ (round:=?_)
 rintro m st ⟨g,out,rest,rfl,hO,hE,hrl,hlen,hnl,rfl⟩
 repeat refine kG ?_
 by_cases hr:rest=[]
 ·subst hr
  have hg:=Pm.hid (eg_end (s:=s) hE.out (by rw[hO.out,AU]));have ce:=(Qps out (by unfold Pm.big;omega) hnl.out).arg (l:=[tEnts out]);generalize QbP s=res at*;generalize Qab out=o1 at*
  repeat refine kA ?_
  refine Qeo 0 (h:=?_)
  repeat' first|refine kA ?_|refine kV ?_ ?_<;>intro q|fail
  ·refine Qed 2 true 2 (h:=?_)
   refine Qb (hx:=?_);rw[hg.out];simp_all
  ·refine Qb (hx:=?_)
   rw[hg.out];simp_all
 have hne:(!(rest==([]:List UInt8)))=true:=by simpa using hr
 have st:=eg_next hE.out hO.out hr;have c1:=bCut 59 rest (by omega);generalize AA rest [59]=w at*;obtain⟨one,tail,ok⟩:=w;have z1:one.length<=rest.length:=st.l1;have c2:=bCut 61 one (by omega);simp only at st;generalize AA one [61]=v at*;obtain⟨name,num,fine⟩:=v;have z2:name.length<=rest.length:=st.l3;have z3:num.length<=rest.length:=st.l4;have z4:tail.length<=rest.length:=st.l2;have c3:=bNumGet num (by unfold Pm.big;omega);have c4:=bClone name (by unfold Pm.big;omega);have F:=Pm.hid st.bad;have T:=Pm.hid st.good;clear st;simp only at F T c1 c2;generalize Pl.numGet num=gg at*;generalize gg.isSome=good at*;generalize hnv:gg.getD 0=nv at*
 have hq:((out.length:Int)==12)=decide (out.length=12):=by
  rw[AY];simp;omega
 generalize QbP s=res at*
 repeat' first|refine kS ?_|refine QV Ty.h rfl Ty.h (hb:=?_) (kk:=?_)|refine kU ?_|refine kV ?_ ?_<;>intro q|fail
 all_goals first
  |exact absurd (hne.symm.trans ‹_=false›) (by decide)
  |(refine Qed 2 true 2 (h:=?_)
    refine Qb (hx:=?_)
    rw[F.out (by simp_all)];rfl)
  |(simp;omega)
  |(exfalso;simp_all;done)
  |(obtain⟨t1,t2,t3⟩:=T.out (by simp_all)
    have h12:out.length≠12:=fun e=>absurd (‹((out.length:Int)==12)=false›) (by rw[hq];simp[e])
    refine Qh tail.length t3 ⟨g+1,out++[(name,(nv:Int))],tail,rfl,Pm.hid t1,Pm.hid ?_,by omega,by simp only[AG,AD,AK];omega,Pm.hid ?_,?_⟩
    ·intro e he
     rcases Aa.1 he with h|h
     ·exact hE.out e h
     ·rw[A9.1 h];exact t2
    ·intro e he
     rcases Aa.1 he with h|h
     ·exact hnl.out e h
     ·rw[A9.1 h];show name.length<=1000000;omega
    ·simp[keepE,go_sem])
