/- Of fuse_card; no condition. -/
import Derived.Test.YtmomkioebognpaaGreatDoorQ20
import Derived.Test.YtmomkioebognpaaGreatDoorQ21
import Derived.Laws.RangeAny
set_option linter.all false
set_option maxRecDepth 100000
set_option maxHeartbeats 8000000
open Bool renaming and_eq_true->AK,false_eq_true->AO,true_and->Ap,eq_iff_iff->Au,not_eq_false'->B1,or_true->B7,false_or->BE
open Go renaming Value->BJ,FuncId->BN
open Go.Lib renaming cut->AH,idxFuncFrom->Av,idxFunc->Ay,repeatL->BK
open Go.Proofs.Tryz renaming prog->A1,ntmps229->B0,underlying22->B4,func229->B6,underlying90->B8
open Go.RowKit renaming Hid->AZ
open Go.Utf8 renaming decode->BL
open Go.Value renaming cells->BI
open Int renaming le_refl->Ae,toNat_natCast->An
open List renaming getD_eq_getElem?_getD->A0,getElem?_eq_getElem->A2,replicate->A3,mem_of_getElem?->A4,range->A5,length_append->A6,mem_range->A7,length_cons->A8,append_assoc->A9,perm_append_comm->AA,mem_singleton->AB,take_of_length_le->AC,mem_append_left->AE,length_drop->AF,flatMap_def->AG,flatMap_cons->AI,mem_cons_of_mem->AJ,getElem?_eq_some_iff->AL,length_pos_iff->AM,length_map->AN,mem_cons_self->AP,length_eq_zero_iff->AR,foldl_append->AT,take_add_one->AU,getElem?_map->AW,mem_append_right->AX,length_replicate->AY,mem_flatMap->Aa,length_take->Ac,take_length->Ad,length_nil->Af,append_nil->Ag,range_succ->Ah,mem_append->Ai,map_congr_left->Aj,replicate_succ->Ak,mem_take_iff_getElem->Al,getElem?_append_left->Am,mem_cons->Ao,drop_of_length_le->Aq,nil_append->Ar,foldl_cons->As,foldl_nil->Ax,map_cons->Az,map_nil->B2,not_mem_nil->B9,cons_append->BA,all_eq_true->BB,tail_cons->BD,all_map->BH
open List.Perm renaming append_left->AD,append_right->AS
open List.Sublist renaming refl->B3,append->BM
open Nat renaming le_refl->AQ,min_eq_left->BC,le_trans->BF,zero_add->BG
open Option renaming getD_some->Ab
open Option.some renaming injEq->B5,inj->BO
namespace Go.Proofs.YtmomkioebognpaaGreatDoor
noncomputable section
open Go.RowKit
namespace Aw
variable{t:Pl.Tree}{w w' w2:Pl.Sto}{p:Pl.Ptr}{x rest:List UInt8}{k g1 g2:Nat}{wd:World}{σ:Sg}{a:D}{args:List AV}{α:Type}{out:List Pl.Ent}
attribute [local irreducible] ASeq ADraw AWP Loc AStep Fg.PlanF Fg.Flts
def Qto(n:Pl.Node):Pure A1 143 [dNode n] (dS (Pl.Qaf n)):=by
 have hd:=Pm.hid (Pl.Qaf.eq_def n);have c1:=bNodeOk n;refine kE ?_;refine QbP 0 (h:=?_);cases h1:Pl.Qar n
 ·rw[h1] at c1
  repeat refine kA ?_
  refine QbQ (hx:=?_);rw[hd.out,h1];rfl
 rw[h1] at c1;have hb:=Qd6 h1
 have hL: ∀x∈Pl.Qax n,x.length<=4294967296:=by
  intro x hx;have hdl: ∀k,k<=4294967296->(Pl.dec k).length<=4294967296:=fun k hk=>BF (Pl.QbT 10 k (by omega)) (by decide)
  have h1:=hb.kind;have h2:=hb.links;have h3:=hb.size;have h4:=hb.depth;have h5:=hb.many;simp only[Pl.Qax,Ao,B9,or_false] at hx;rcases hx with rfl|rfl|rfl|rfl|rfl|rfl|rfl
  ·exact hdl _ (by omega)
  ·exact hdl _ (by omega)
  ·exact hdl _ (by omega)
  ·exact BF (Pm.ptrPut_len _) (by decide)
  ·exact hdl _ (by omega)
  ·exact hdl _ (by omega)
  ·decide
 have c5:=(Qpo (Pl.Qax n) (by simp[Pl.Qax,Pm.big]) hL).arg (l:=[tStrs (Pl.Qax n)]);rw[<-Qgf hb] at c5;have hk:=hb.kind;have hk2:=hb.links;have hk3:=hb.size;have hk4:=hb.depth;have hk5:=hb.many;have c2:=QrC [n.kind,n.links,n.size] (by simp);have c3:=Ql4 n.tree;simp only[Az,B2,A8,Af,BG,Nat.reduceAdd] at c2;simp only[Pl.QdJ] at c3;simp only[Pl.QdJ,Az,B2,BA,Ar] at c5
 repeat' first|refine kS ?_|(show AWP _ (.region 3 _ _) _ _;refine(Fg.awp_drawF (id:=3) [8,9,12] [7,11,13] ?_))|refine(Fg.aw_fltL (hl:=fun H=>Qc9 Ty.h rfl Ty.h) (k:=?_))|refine(Qh3 [] c2 cK (k:=?_))|refine qD (Qc9 (T:=24) Ty.h rfl Ty.h) ?_|refine(Qkv Ty.h rfl Ty.h (hcell:=?_) (hb:=?_) (kk:=?_))|refine qD (Qfh cK c5 rfl) ?_|refine kU ?_|fail
 ·intro r hr d hd
  simp only[Az,B2,Ao,B9,or_false] at hr;rcases hr with rfl|rfl|rfl<;>(obtain rfl:=AB.1 hd;rfl)
 ·simp
 ·intro r hr d hd
  obtain rfl:=AB.1 hr;obtain rfl:=AB.1 hd;rfl
 ·simp
 ·refine QbQ (hx:=?_)
  rw[hd.out,h1,if_pos rfl,<-Qgf hb];rfl
theorem bTreeOf(x y z:List UInt8)(hx:x.length<=2048)(hy:y.length<=2048)(hz:z.length<=2048):
 Pure A1 142 [tStrs [x,y,z]] (.tup [dTree ⟨(Pl.pg x).1,((Pl.numGet y).getD 0:Nat),((Pl.numGet z).getD 0:Nat)⟩,dB ((Pl.pg x).2&&(Pl.numGet y).isSome&&(Pl.numGet z).isSome)]):=by
 have c1:=bPtrGet x (by omega);have c2:=bNumGet y (by unfold Pm.big;omega);have c3:=bNumGet z (by unfold Pm.big;omega);generalize (Pl.numGet y).getD 0=n1 at*;generalize (Pl.numGet z).getD 0=n2 at*;generalize (Pl.numGet y).isSome=o1 at*;generalize (Pl.numGet z).isSome=o2 at*;generalize Pl.pg x=pp at*;obtain⟨⟨p1,p2,p3,p4,p5⟩,okp⟩:=pp;refine kC ?_
 repeat' first|refine kS ?_|refine qS (iy rfl) ?_|refine kU ?_|refine kV ?_ ?_<;>intro q|fail
 all_goals
  (refine QbP 0 (h:=?_);refine Qch (hx:=?_))
  simp_all
theorem Qtp(s:List UInt8)(hs:s.length<=Pm.big):Pure A1 85 [dS s] (.tup [dNode (Pl.ng s).1,dB (Pl.ng s).2]):=by
 have c:=Qpp s hs;rcases Qng s with⟨hr,hok⟩|h0;rotate_left
 ·have hn:AZ (Pl.ng s=(Pl.zn,false)):=Pm.hid (Qhw (.inl (by rw[h0])))
  rw[h0] at c;refine kC ?_
  repeat refine kA ?_
  (refine QbP 0 (h:=?_);refine Qch (hx:=?_))
  rw[hn.out];rfl
 by_cases h7:(Pl.rg s).1.length=7
 rotate_left
 ·have hn:AZ (Pl.ng s=(Pl.zn,false)):=Pm.hid (Qhw (.inr h7))
  rw[hok] at c;generalize (Pl.rg s).1=l at*;clear hr hok;refine kC ?_
  repeat' first|refine kA ?_|refine kV ?_ ?_<;>intro q|fail
  all_goals first|exfalso;simp only[bne_eq_false_iff_eq] at*;omega|((refine QbP 0 (h:=?_);refine Qch (hx:=?_));rw[hn.out];rfl)
 rw[hok] at c;generalize (Pl.rg s).1=l at*
 match l,h7 with
 |[y1,y2,y3,y4,y5,y6,y7],_=>
 have hl:=QpS hr;have hg:=Pm.hid (QtF hr);have cn: ∀x∈[y1,y2,y3,y4,y5,y6,y7],Pure A1 141 [dS x] (.tup [dI ((Pl.numGet x).getD 0:Nat),dB (Pl.numGet x).isSome]):=fun x hx=>bNumGet x (by have:=hl x hx;unfold Pm.big;omega)
 have c1:=cn y1 (by simp);have c2:=cn y2 (by simp);have c3:=cn y3 (by simp);have hno: ∀P:Prop,(∀p,Pl.Qbd s p->P)-> ¬P->Pl.ng s=(Pl.zn,false):=fun P h hn=>QkT fun p hp=>hn (h p hp)
 have f1:AZ ((Pl.numGet y1).isSome=false->Pl.ng s=(Pl.zn,false)):=Pm.hid fun e=>hno ((Pl.numGet y1).isSome=true) (fun p hp=>by rw[(QdN hr hp).1];rfl) (by rw[e];simp)
 have f2:AZ ((Pl.numGet y2).isSome=false->Pl.ng s=(Pl.zn,false)):=Pm.hid fun e=>hno ((Pl.numGet y2).isSome=true) (fun p hp=>by rw[(QdN hr hp).2.1];rfl) (by rw[e];simp)
 have f3:AZ ((Pl.numGet y3).isSome=false->Pl.ng s=(Pl.zn,false)):=Pm.hid fun e=>hno ((Pl.numGet y3).isSome=true) (fun p hp=>by rw[(QdN hr hp).2.2.1];rfl) (by rw[e];simp)
 have f5:AZ (((Pl.pg y4).2&&(Pl.numGet y5).isSome&&(Pl.numGet y6).isSome)=false->Pl.ng s=(Pl.zn,false)):=Pm.hid fun e=>hno (((Pl.pg y4).2&&(Pl.numGet y5).isSome&&(Pl.numGet y6).isSome)=true) (fun p hp=>by rw[(QdN hr hp).2.2.2.1,(QdN hr hp).2.2.2.2.1,(QdN hr hp).2.2.2.2.2];rfl) (by rw[e];simp)
 have cp:=Qto (Pl.Qba y1 y2 y3 y4 y5 y6);have t1:=bTreeOf y4 y5 y6 (hl y4 (by simp)) (hl y5 (by simp)) (hl y6 (by simp));obtain⟨N,hN⟩: ∃N,N=Pl.Qba y1 y2 y3 y4 y5 y6:=⟨_,rfl⟩;rw[<-hN] at cp hg;unfold Pl.Qba at hN;clear cn hl hr hok hno;generalize (Pl.numGet y1).isSome=o1 at*;generalize (Pl.numGet y2).isSome=o2 at*;generalize (Pl.numGet y3).isSome=o3 at*;generalize ((Pl.pg y4).2&&(Pl.numGet y5).isSome&&(Pl.numGet y6).isSome)=o5 at*;generalize (Pl.numGet y1).getD 0=n1 at*;generalize (Pl.numGet y2).getD 0=n2 at*;generalize (Pl.numGet y3).getD 0=n3 at*;generalize (Pl.numGet y5).getD 0=n5 at*;generalize (Pl.numGet y6).getD 0=n6 at*;generalize (Pl.pg y4).1=pp at*;obtain⟨p1,p2,p3,p4,p5⟩:=pp;generalize Pl.Qaf N=t at*;generalize Pl.ng s=res at*;subst hN;refine kC ?_
 repeat' first|refine kS ?_|refine stepS2 (QsA Ty.h rfl Ty.h) (k:=?_)|refine qS (Qmp Ty.h rfl rfl rfl) ?_|refine kU ?_|fail
 refine QbS (fun m st=> ∃k a b d:Int,((m=3/\k=0/\a=0/\b=0/\d=0)∨(m=2/\o1=true/\k=1/\a=n1/\b=0/\d=0)∨(m=1/\o1=true/\o2=true/\k=2/\a=n1/\b=n2/\d=0)∨(m=0/\o1=true/\o2=true/\o3=true/\k=3/\a=n1/\b=n2/\d=n3))/\
  st=⟨63,[(0,.d (dS s)),(4,.d (tStrs [y1,y2,y3,y4,y5,y6,y7])),(6,.ptr 1 0 0),(25,.rsl 2 0 3),(26,.d (dI 3)),(27,.d (dI k)),(2,.ptr 0 0 0)],
   [.row 0 [.d (dI 0),.d (dI 0),.d (dI 0),.d (dI 0),.d (dI 0),.d (dI 0),.d (dI 0),.d (dI 0),.d (dI 0),.d (dI 0)],.row 0 [.d (dI a),.d (dI b),.d (dI d),.d (dI 0),.d (dI 0),.d (dI 0),.d (dI 0),.d (dI 0),.d (dI 0),.d (dI 0)],.row 0 [.ptr 1 0 0,.ptr 1 0 1,.ptr 1 0 2]]⟩) [0,4,6,25,26,27,2] 3 3 ⟨0,0,0,0,.inl ⟨rfl,rfl,rfl,rfl,rfl⟩,rfl⟩ (round:=?_)
 rintro m st ⟨k,a,b,d,hcase,rfl⟩;rcases hcase with⟨rfl,rfl,rfl,rfl,rfl⟩|⟨rfl,r1,rfl,rfl,rfl,rfl⟩|⟨rfl,r1,r2,rfl,rfl,rfl,rfl⟩|⟨rfl,r1,r2,r3,rfl,rfl,rfl,rfl⟩
 ·repeat' first|refine kS ?_|refine qS (QbW Ty.h rfl Ty.h rfl rfl rfl (by decide) rfl) ?_|refine qS (QeG Ty.h rfl Ty.h rfl rfl rfl rfl (by decide) (by decide)) ?_|refine kU ?_|refine kV ?_ ?_<;>intro q|fail
  ·(refine QbP 0 (h:=?_);refine Qch (hx:=?_))
   rw[f1.out (by simp_all)];rfl
  ·exact QbR 2 (by decide) ⟨1,n1,0,0,.inr (.inl ⟨rfl,by simp_all,rfl,rfl,rfl,rfl⟩),by simp[keepE,go_sem]⟩
 ·repeat' first|refine kS ?_|refine qS (QbW Ty.h rfl Ty.h rfl rfl rfl (by decide) rfl) ?_|refine qS (QeG Ty.h rfl Ty.h rfl rfl rfl rfl (by decide) (by decide)) ?_|refine kU ?_|refine kV ?_ ?_<;>intro q|fail
  ·(refine QbP 0 (h:=?_);refine Qch (hx:=?_))
   rw[f2.out (by simp_all)];rfl
  ·exact QbR 1 (by decide) ⟨2,n1,n2,0,.inr (.inr (.inl ⟨rfl,r1,by simp_all,rfl,rfl,rfl,rfl⟩)),by simp[keepE,go_sem]⟩
 ·repeat' first|refine kS ?_|refine qS (QbW Ty.h rfl Ty.h rfl rfl rfl (by decide) rfl) ?_|refine qS (QeG Ty.h rfl Ty.h rfl rfl rfl rfl (by decide) (by decide)) ?_|refine kU ?_|refine kV ?_ ?_<;>intro q|fail
  ·(refine QbP 0 (h:=?_);refine Qch (hx:=?_))
   rw[f3.out (by simp_all)];rfl
  ·exact QbR 0 (by decide) ⟨3,n1,n2,n3,.inr (.inr (.inr ⟨rfl,r1,r2,by simp_all,rfl,rfl,rfl,rfl⟩)),by simp[keepE,go_sem]⟩
 ·repeat' first|refine kS ?_|refine qS (QkZ rfl rfl rfl rfl (by decide) (by decide) (by simp)) ?_|refine kU ?_|refine kV ?_ ?_<;>intro q|fail
  ·(refine QbP 0 (h:=?_);refine Qch (hx:=?_))
   rw[f5.out (by simp_all)];rfl
  ·(refine QbP 0 (h:=?_);refine Qch (hx:=?_))
   rw[hg.out,if_neg (by simpa using q)];rfl
  ·(refine QbP 0 (h:=?_);refine Qch (hx:=?_))
   rw[hg.out,if_pos (by simpa using q)]
def Pl.pcs:Nat->List UInt8->List (List UInt8)
 |0,_=>[]
 |n+1,s=>if s=[] then [] else s.take 128::Pl.pcs n (s.drop 128)
def Pl.cuts(s:List UInt8):List (List UInt8):=Pl.pcs s.length s
def Qqe: ∀(n:Nat) (s:List UInt8),s.length<=n->(Pl.pcs n s).length=(s.length+127)/128
 |0,s,h=>by
  have:s.length=0:=by omega
  rw[this];rfl
 |n+1,s,h=>by
  unfold Pl.pcs;split
  ·rename_i h0;rw[h0];rfl
  ·rename_i h0
   have h1:0<s.length:=AM.2 h0;rw[A8,Qqe n _ (by rw[AF];omega),AF];omega
def Pl.QaO(w:Pl.Sto)(t:Pl.Tree):List (List UInt8)->Nat->Pl.Sto×Pl.Tree×Bool
 |[],_=>(w,t,true)
 |x::l,k=>if(Pl.tput w t k x).2.2 then Pl.QaO (Pl.tput w t k x).1 (Pl.tput w t k x).2.1 l (k+1) else((Pl.tput w t k x).1,t,false)
def Pl.bput(w:Pl.Sto)(t:Pl.Tree)(text:List UInt8):Pl.Sto×Pl.Tree×Bool:=
 if 16<(Pl.cuts text).length then(w,t,false) else
 if(Pl.QaO w t (Pl.cuts text) 0).2.2 then Pl.cut (Pl.QaO w t (Pl.cuts text) 0).1 (Pl.QaO w t (Pl.cuts text) 0).2.1 (Pl.cuts text).length else Pl.QaO w t (Pl.cuts text) 0
structure Pl.Did(w:Pl.Sto)(t:Pl.Tree)(w':Pl.Sto)(t':Pl.Tree)(X:List Pl.Ptr):Prop where
 tr:Pl.Tr w' t'
 live:Pl.Lv w' (Pl.tps w'.st t'++X)
 keep:Pl.Keep w w' X
 txg:w'.txg=w.txg
def Qj9{X:List Pl.Ptr}: ∀(l:List (List UInt8)) (k:Nat) {w:Pl.Sto} {t:Pl.Tree},Pl.Tr w t->Pl.Lv w (Pl.tps w.st t++X)->k+l.length<=16->(Pl.QaO w t l k).2.2=true->
 Pl.Did w t (Pl.QaO w t l k).1 (Pl.QaO w t l k).2.1 X/\(Pl.QaO w t l k).2.1.many=(if l=[] then t.many.toNat else max t.many.toNat (k+l.length):Nat)
 |[],k,w,t,hT,h,_,_=>⟨⟨hT,h,fun _ _=>rfl,rfl⟩,by have:=hT.good.manyLo;rw[if_pos rfl];show t.many=_;omega⟩
 |x::l,k,w,t,hT,h,hk,hok=>by
  simp only[Pl.QaO] at hok⊢;rw[A8] at hk;split at hok;rotate_left
  ·cases hok
  rename_i h1;rw[if_pos h1];obtain⟨a1,a2,a3,a4,a5,_⟩:=QlU hT (by omega) h h1;generalize Pl.tput w t k x=y at*;obtain⟨⟨b1,b2,b3,b4⟩,b5⟩:=Qj9 l (k+1) a1 a3 (by omega) hok;refine⟨⟨b1,b2,fun q hq=>(b3 q hq).trans (a4 q hq),b4.trans a5⟩,?_⟩;rw[b5,a2,if_neg (show ¬x::l=[] by simp)];split
  ·rename_i h0;rw[h0,An];simp
  ·rw[An,A8];omega
def bput_in{X:List Pl.Ptr}{text:List UInt8}(hT:Pl.Tr w t)(h:Pl.Lv w (Pl.tps w.st t++X))(hok:(Pl.bput w t text).2.2=true):
 Pl.Did w t (Pl.bput w t text).1 (Pl.bput w t text).2.1 X/\(Pl.bput w t text).2.1.many=(text.length+127)/128/\text.length<=2048:=by
 have hc:(Pl.cuts text).length=(text.length+127)/128:=Qqe _ _ (AQ _);unfold Pl.bput at hok⊢;split at hok
 ·cases hok
 rename_i h16;rw[if_neg h16];split at hok
 ·rename_i h1
  rw[if_pos h1];obtain⟨⟨a1,a2,a3,a4⟩,_⟩:=Qj9 (Pl.cuts text) 0 hT h (by omega) h1;generalize Pl.QaO w t (Pl.cuts text) 0=y at*;obtain⟨b1,b2,b3,b4,b5,_⟩:=Qrw a1 a2 (by omega) hok;refine⟨⟨b1,b3,fun q hq=>(b4 q hq).trans (a3 q hq),b5.trans a4⟩,?_,by omega⟩;rw[b2,hc];omega
 ·rename_i h1;exact absurd hok h1
def Qt7(h:Pl.Tr w t):Pl.ptrHole t.root=true∨t.root.level=t.depth:=by
 have hl:=h.lv
 have hbl: ∀{p:Pl.Ptr} {n:Int},(Pl.Qad w.st p n).2=true->Pl.ptrHole p=true∨p.level=n:=fun{p n} hb=>by
  unfold Pl.Qad at hb;split at hb
  ·exact .inl (by assumption)
  ·split at hb
   ·rename_i hc
    simp only[AK,beq_iff_eq] at hc;exact .inr hc.1.1.2
   ·cases hb
 have hd:t.depth=0∨t.depth=1∨t.depth=2:=by rw[h.dep];rcases Qfo t.many.toNat with e|e|e<;>rw[e]<;>simp
 rcases hd with hd|hd|hd
 ·have:=h.zero t.root (by rw[leaves0 _ hd];exact AB.2 rfl)
  rw[hd];exact this
 ·rw[leaves1 _ hd] at hl
  split at hl
  ·rename_i hb;rw[hd];exact hbl hb
  ·cases hl
 ·rw[leaves2 _ hd] at hl
  split at hl
  ·rename_i hb;rw[hd];exact hbl hb
  ·cases hl
def Pl.nd(w:Pl.Sto)(t:Pl.Tree)(k:Nat):Pl.Node×Bool:=Pl.ng (Pl.rd w.rows ((Pl.wide w.st t).getD k Pl.hole)).1
def Pl.nps(s:Pm.Store)(n:Pl.Node×Bool):List Pl.Ptr:=if n.2 then Pl.tps s n.1.tree else []
def Pl.ndx(w:Pl.Sto)(t:Pl.Tree)(id:Nat):List Pl.Ptr:=(A5 16).flatMap fun k=>if k=id then [] else Pl.nps w.st (Pl.nd w t k)
def Pl.nds(w:Pl.Sto)(t:Pl.Tree):List Pl.Ptr:=(A5 16).flatMap fun k=>Pl.nps w.st (Pl.nd w t k)
theorem Qn6{α:Type}(f:Nat->List α)(id:Nat): ∀l:List Nat,l.Nodup->id∈l->(l.flatMap f).Perm (f id++l.flatMap fun k=>if k=id then [] else f k)
 |[],_,h=>by cases h
 |k::l,hn,h=>by
  rw[List.nodup_cons] at hn;rw[AI,AI]
  by_cases hk:k=id
  ·subst hk
   rw[if_pos rfl,Ar]
   have:(l.flatMap fun j=>if j=k then [] else f j)=l.flatMap f:=by
    rw[AG,AG,Aj fun j hj=>if_neg (fun e=>hn.1 (by rw[<-e];exact hj))]
   rw[this]
  ·rw[if_neg hk]
   have ih:=Qn6 f id l hn.2 (by rcases Ao.1 h with e|e;exact absurd e.symm hk;exact e);refine(AD _ ih).trans ?_;rw[<-A9,<-A9];exact AS _ AA
def Qqr(w:Pl.Sto)(t:Pl.Tree){id:Nat}(h:id<16):(Pl.nds w t).Perm (Pl.nps w.st (Pl.nd w t id)++Pl.ndx w t id):=Qn6 _ id _ List.nodup_range (A7.2 h)
structure Pl.Op(w:Pl.Sto)(t:Pl.Tree)(id:Nat)(E:List Pl.Ptr):Prop where
 tr:Pl.Tr w t
 nod: ∀k,k<16->k≠id->(Pl.nd w t k).2=true->Pl.Tr w (Pl.nd w t k).1.tree
 live:Pl.Lv w (Pl.tps w.st t++(Pl.ndx w t id++E))
structure Pl.Fs(w:Pl.Sto)(t:Pl.Tree):Prop where
 tr:Pl.Tr w t
 nod: ∀k,k<16->(Pl.nd w t k).2=true->Pl.Tr w (Pl.nd w t k).1.tree
 live:Pl.Lv w (Pl.tps w.st t++Pl.nds w t)
def QgT(h:Pl.Fs w t){id:Nat}(hid:id<16):Pl.Op w t id (Pl.nps w.st (Pl.nd w t id)):=
 ⟨h.tr,fun k hk _=>h.nod k hk,h.live.perm (AD _ ((Qqr w t hid).trans AA))⟩
def Qsb(hT:Pl.Tr w t)(k:Nat):Pl.ptrHole ((Pl.wide w.st t).getD k Pl.hole)=true∨(Pl.wide w.st t).getD k Pl.hole∈Pl.tps w.st t:=by
 cases hh:Pl.ptrHole ((Pl.wide w.st t).getD k Pl.hole)
 ·refine .inr ?_
  have hk:k<(Pl.wide w.st t).length:=by
   rw[A0] at hh;cases hx:(Pl.wide w.st t)[k]? with
   |none=>rw[hx] at hh;exact absurd hh (by decide)
   |some q=>exact(AL.1 hx).1
  unfold Pl.tps;rw[<-Qme];exact AX _ (QdF.2 ⟨Pl.QcT hk,hh⟩)
 ·exact .inl rfl
def QlY(h:Pl.ptrHole p=true∨w'.rows.getD p.pat.toNat []=w.rows.getD p.pat.toNat []):Pl.rd w'.rows p=Pl.rd w.rows p:=by
 rcases h with h|h
 ·rw[Qfi h,QdD,QdD]
 ·unfold Pl.rd;rw[h]
def Qen{s:Pm.Store}{q:Pl.Ptr}(h:q∈Pl.inner s t):q∈Pl.tps s t:=AE _ h
def Qk0{id:Nat}{E E':List Pl.Ptr}(h:Pl.Op w t id E)(hk:Pl.Keep w w' (Pl.tps w.st t++Pl.ndx w t id))(ht:w.txg<=w'.txg)(hl:Pl.Lv w' (Pl.tps w.st t++(Pl.ndx w t id++E'))):
 Pl.Op w' t id E'/\(∀k,Pl.nd w' t k=Pl.nd w t k)/\Pl.tps w'.st t=Pl.tps w.st t/\Pl.ndx w' t id=Pl.ndx w t id:=by
 obtain⟨k1,k2,k3,k4,k5⟩:=Qej (w':=w') h.tr (fun q hq=>hk q (AE _ (Qen hq))) ht
 have hnd: ∀k,Pl.nd w' t k=Pl.nd w t k:=fun k=>by
  unfold Pl.nd;rw[k5,QlY ((Qsb h.tr k).imp (fun e=>e) fun e=>hk _ (AE _ e))]
 have hnp: ∀k,k<16->k≠id->Pl.nps w'.st (Pl.nd w t k)=Pl.nps w.st (Pl.nd w t k)/\((Pl.nd w t k).2=true->Pl.Tr w' (Pl.nd w t k).1.tree):=fun k hk16 hki=>by
  cases hn:(Pl.nd w t k).2
  ·unfold Pl.nps;rw[hn];exact⟨rfl,fun e=>by cases e⟩
  ·have hT2:=h.nod k hk16 hki hn
   have hin: ∀q∈Pl.tps w.st (Pl.nd w t k).1.tree,q∈Pl.ndx w t id:=fun q hq=>by
    unfold Pl.ndx;refine Aa.2 ⟨k,A7.2 hk16,?_⟩;rw[if_neg hki];unfold Pl.nps;rw[hn];exact hq
   obtain⟨j1,_,_,j4,_⟩:=Qej (w':=w') hT2 (fun q hq=>hk q (AX _ (hin q (Qen hq)))) ht;unfold Pl.nps;rw[hn];exact⟨j4,fun _=>j1⟩
 have hx:Pl.ndx w' t id=Pl.ndx w t id:=by
  unfold Pl.ndx;rw[AG,AG,Aj fun k hk=>?_]
  by_cases hki:k=id
  ·rw[if_pos hki,if_pos hki]
  ·rw[if_neg hki,if_neg hki,hnd];exact(hnp k (A7.1 hk) hki).1
 exact⟨⟨k1,fun k hk16 hki hn=>by rw[hnd] at hn⊢;exact(hnp k hk16 hki).2 hn,by rw[k4,hx];exact hl⟩,hnd,k4,hx⟩
def Qmv(h:x.length<=100):(Pl.item x).length<=104:=by
 have:=Pl.QbT 2 x.length (by omega);rw[Pl.QfU];omega
def Qqa(h:Pl.ptrOk p=true):(Pl.ptrPut p).length<=100:=by
 obtain⟨h1,h2,h3,h4,h5⟩:=Pl.Qc6 h;unfold Pl.ptrPut;rw[if_pos h];split
 ·decide
 ·have a1:=Pl.QbT 9 p.pat.toNat (by omega)
  have a2:=Pl.QbT 9 p.birth.toNat (by omega);have a3:=Pl.QbT 9 p.size.toNat (by omega);have a4:=Pl.QbT 9 p.sum.toNat (by omega);have a5:=Pl.QbT 9 p.level.toNat (by omega);simp[Pl.ptrText,Pl.dots];omega
def Qmd{n:Pl.Node}(h:Pl.Qar n=true):Pl.Qbd (Pl.Qaf n) n:=by
 have hb:=Qd6 h;have b1:=hb.kind;have b2:=hb.links;have b3:=hb.size;have b4:=hb.depth;have b5:=hb.many;have d: ∀k:Nat,k<=3000->(Pl.item (Pl.dec k)).length<=104:=fun k hk=>Qmv (by have:=Pl.QbT 9 k (by omega);omega)
 have a0:=d n.kind.toNat (by omega);have a1:=d n.links.toNat (by omega);have a2:=d n.size.toNat (by omega);have a3:=Qmv (Qqa hb.ptr);have a4:=d n.tree.depth.toNat (by omega);have a5:=d n.tree.many.toNat (by omega);have a6:(Pl.item [101,110,100]).length<=104:=Qmv (by decide)
 have he:(Pl.enc (Pl.Qax n)).length<=2048:=by
  simp only[Pl.Qax,Pl.enc,AI,List.flatMap_nil,A6,Af];omega
 have hf:Pl.Qce (Pl.Qax n)=some (Pl.enc (Pl.Qax n)):=by unfold Pl.Qce;rw[if_pos ⟨by simp[Pl.Qax],he⟩]
 refine⟨h,?_⟩;unfold Pl.Qaf Pl.fp;rw[if_pos h,hf];exact Pl.QfK.1 hf
def QhO:Pl.ng []=(Pl.zn,false):=by
 refine QkT fun n h=>?_
 have h2:=h.2.2.2;simp only[Pl.Qax,Pl.Qef] at h2;exact Pl.QeK _ (List.append_eq_nil_iff.1 h2).1
def ng_put(n:Pl.Node):Pl.ng (Pl.Qaf n)=if Pl.Qar n then(n,true) else(Pl.zn,false):=by
 cases h:Pl.Qar n
 ·have:Pl.Qaf n=[]:=by unfold Pl.Qaf;rw[h];rfl
  rw[this,QhO];rfl
 ·exact ng_is (Qmd h)
theorem Qon{id:Nat}{n:Pl.Node}(hid:id<16)(h:Pl.Op w t id (Pl.tps w.st n.tree))(hn:Pl.Qar n=true->Pl.Tr w n.tree)(hok:(Pl.tput w t id (Pl.Qaf n)).2.2=true):
 Pl.Fs (Pl.tput w t id (Pl.Qaf n)).1 (Pl.tput w t id (Pl.Qaf n)).2.1/\(Pl.tput w t id (Pl.Qaf n)).2.1.many=(max t.many.toNat (id+1):Nat)/\
 (∀k,k≠id->Pl.nd (Pl.tput w t id (Pl.Qaf n)).1 (Pl.tput w t id (Pl.Qaf n)).2.1 k=Pl.nd w t k)/\Pl.nd (Pl.tput w t id (Pl.Qaf n)).1 (Pl.tput w t id (Pl.Qaf n)).2.1 id=if Pl.Qar n then(n,true) else(Pl.zn,false):=by
 obtain⟨a1,a2,a3,a4,a5,a6,a7⟩:=QlU h.tr hid h.live hok;generalize Pl.tput w t id (Pl.Qaf n)=y at*
 have hnd: ∀k,k≠id->Pl.nd y.1 y.2.1 k=Pl.nd w t k:=fun k hk=>by
  obtain⟨b1,b2⟩:=a6 k hk;unfold Pl.nd;rw[b1,b2]
 have hndi:Pl.nd y.1 y.2.1 id=if Pl.Qar n then(n,true) else(Pl.zn,false):=by unfold Pl.nd;rw[a7,ng_put]
 have htr: ∀k,k<16->k≠id->(Pl.nd w t k).2=true->Pl.Tr y.1 (Pl.nd w t k).1.tree/\Pl.tps y.1.st (Pl.nd w t k).1.tree=Pl.tps w.st (Pl.nd w t k).1.tree:=fun k hk16 hk hn2=>by
  have hin: ∀q∈Pl.tps w.st (Pl.nd w t k).1.tree,q∈Pl.ndx w t id:=fun q hq=>by
   unfold Pl.ndx;refine Aa.2 ⟨k,A7.2 hk16,?_⟩;rw[if_neg hk];unfold Pl.nps;rw[hn2];exact hq
  obtain⟨j1,_,_,j4,_⟩:=Qej (w':=y.1) (h.nod k hk16 hk hn2) (fun q hq=>a4 q (AE _ (hin q (Qen hq)))) (by rw[a5];exact Ae _);exact⟨j1,j4⟩
 have hx:Pl.ndx y.1 y.2.1 id=Pl.ndx w t id:=by
  unfold Pl.ndx;rw[AG,AG,Aj fun k hk=>?_]
  by_cases hki:k=id
  ·rw[if_pos hki,if_pos hki]
  ·rw[if_neg hki,if_neg hki,hnd k hki]
   unfold Pl.nps;cases hn2:(Pl.nd w t k).2
   ·rfl
   ·exact(htr k (A7.1 hk) hki hn2).2
 have hni:Pl.Qar n=true->Pl.Tr y.1 n.tree/\Pl.tps y.1.st n.tree=Pl.tps w.st n.tree:=fun hno=>by
  obtain⟨j1,_,_,j4,_⟩:=Qej (w':=y.1) (hn hno) (fun q hq=>a4 q (AX _ (Qen hq))) (by rw[a5];exact Ae _);exact⟨j1,j4⟩
 refine⟨⟨a1,fun k hk16 hn2=>?_,?_⟩,a2,hnd,hndi⟩
 ·by_cases hki:k=id
  ·subst hki
   rw[hndi] at hn2⊢;split at hn2
   ·rename_i hno;rw[if_pos hno];exact(hni hno).1
   ·cases hn2
  ·rw[hnd k hki] at hn2⊢
   exact(htr k hk16 hki hn2).1
 ·have hp:=Qqr y.1 y.2.1 hid
  rw[hx,hndi] at hp;cases hno:Pl.Qar n
  ·rw[hno] at hp
   refine Pl.Lv.sub (R:=Pl.tps w.st n.tree) a3 ?_;rw[<-A9];exact AS _ (AD _ hp.symm)
  ·rw[hno] at hp
   refine a3.perm (AD _ ?_);refine(AA).trans ?_
   have e:Pl.nps y.1.st (if true=true then(n,true) else(Pl.zn,false))=Pl.tps w.st n.tree:=by
    unfold Pl.nps;simp only[if_true];exact(hni hno).2
   rw[e] at hp;exact hp.symm
abbrev Pl.F:=Pl.Sto×Pl.Tree×Bool
def Pl.fput(f:Pl.F)(id:Nat)(n:Pl.Node):Pl.F:=
 if f.2.2 then f else((Pl.tput f.1 f.2.1 id (Pl.Qaf n)).1,(Pl.tput f.1 f.2.1 id (Pl.Qaf n)).2.1,!(Pl.tput f.1 f.2.1 id (Pl.Qaf n)).2.2)
def Pl.Qag(f:Pl.F)(id:Nat):Pl.Node:=(Pl.Qal f.1.st f.2.1 id).1
def Pl.Qau(f:Pl.F)(id:Nat)(l:List Pl.Ent):Pl.F:=
 if f.2.2 then f else Pl.fput ((Pl.bput f.1 (Pl.Qag f id).tree (Pl.Qah l)).1,f.2.1,!(Pl.bput f.1 (Pl.Qag f id).tree (Pl.Qah l)).2.2) id
  {Pl.Qag f id with tree:=(Pl.bput f.1 (Pl.Qag f id).tree (Pl.Qah l)).2.1,size:=(Pl.Qah l).length}
def QdP(hT:Pl.Tr w t)(hk:k<16):Pl.Qal w.st t k=Pl.nd w t k:=by
 unfold Pl.Qal Pl.nd;split
 ·rename_i h;rw[texts_get w.st hT.good h];rfl
 ·rename_i h
  rw[hT.top k (by have:=hT.good.manyLo;omega),QdD,QhO]
def Pl.Fok(f:Pl.F):Prop:=f.2.2=false->Pl.Fs f.1 f.2.1
variable{f:Pl.F}
def Qm6{id:Nat}{n:Pl.Node}(hid:id<16)(h:f.2.2=false->Pl.Op f.1 f.2.1 id (Pl.tps f.1.st n.tree))(hn:f.2.2=false->Pl.Qar n=true->Pl.Tr f.1 n.tree)(hok:(Pl.fput f id n).2.2=false):
 f.2.2=false/\Pl.Fs (Pl.fput f id n).1 (Pl.fput f id n).2.1/\(Pl.fput f id n).2.1.many=(max f.2.1.many.toNat (id+1):Nat)/\
 (∀k,k≠id->Pl.nd (Pl.fput f id n).1 (Pl.fput f id n).2.1 k=Pl.nd f.1 f.2.1 k)/\Pl.nd (Pl.fput f id n).1 (Pl.fput f id n).2.1 id=if Pl.Qar n then(n,true) else(Pl.zn,false):=by
 unfold Pl.fput at hok⊢;cases hf:f.2.2
 ·rw[hf] at hok
  simp only[AO,if_false,B1] at hok⊢;exact⟨trivial,Qon hid (h hf) (hn hf) hok⟩
 ·rw[hf] at hok
  simp only[if_true] at hok;rw[hok] at hf;cases hf
def Qsz{size:Nat}(h:size<=2048):Pl.Qa3 2 size=((size+127)/128:Nat):=by
 unfold Pl.Qa3;have e:Pl.each 2=128:=rfl;rw[e,if_neg (by decide),if_pos (by simp[Pl.inR];omega)];omega
def QmI(m:Nat):((Pl.dep m:Nat):Int)=Pl.QaZ m:=by
 unfold Pl.dep Pl.QaZ;split<;>split<;>(try split)<;>(try split)<;>first|rfl|omega
def Qs5{n:Pl.Node}{size:Nat}(h:Pl.Qar n=true)(hk:n.kind=2)(hT:Pl.Tr w t)(hm:t.many=(size+127)/128)(hs:size<=2048):Pl.Qar {n with tree:=t,size:=size}=true:=by
 have hl:=(Qd6 h).one hk;unfold Pl.Qar;dsimp only;rw[hk,Qsz hs,hT.dep,hm];have e1:(((size:Int)+127)/128).toNat=(size+127)/128:=by omega
 have e2:((size:Int)+127)/128=(((size+127)/128:Nat):Int):=by omega
 rw[e1,e2,<-QmI,hl,hT.good.root];have hlv:=Qt7 hT;rw[hT.dep,hm,e1] at hlv;simp[Pl.inR];refine⟨by omega,?_⟩;rcases hlv with e|e
 ·exact .inl e
 ·exact .inr e
def QqC{id:Nat}{l:List Pl.Ent}(hid:id<16)(h:Pl.Fok f)(hn:f.2.2=false->(Pl.nd f.1 f.2.1 id).2=true/\(Pl.nd f.1 f.2.1 id).1.kind=2)(hok:(Pl.Qau f id l).2.2=false):
 f.2.2=false/\Pl.Fs (Pl.Qau f id l).1 (Pl.Qau f id l).2.1/\(Pl.Qau f id l).2.1.many=(max f.2.1.many.toNat (id+1):Nat)/\
 (∀k,k≠id->Pl.nd (Pl.Qau f id l).1 (Pl.Qau f id l).2.1 k=Pl.nd f.1 f.2.1 k)/\(Pl.nd (Pl.Qau f id l).1 (Pl.Qau f id l).2.1 id).2=true/\(Pl.nd (Pl.Qau f id l).1 (Pl.Qau f id l).2.1 id).1.kind=2:=by
 unfold Pl.Qau at hok⊢;cases hf:f.2.2;rotate_left
 ·rw[hf] at hok;simp only[if_true] at hok;rw[hok] at hf;cases hf
 rw[hf] at hok;simp only[AO,if_false] at hok⊢;have hF:=h hf;obtain⟨hn1,hn2⟩:=hn hf;have e1:Pl.Qag f id=(Pl.nd f.1 f.2.1 id).1:=by unfold Pl.Qag;rw[QdP hF.tr hid]
 rw[e1] at hok⊢;have hop:=QgT hF hid;have hT:=hF.nod id hid hn1
 have hnok:Pl.Qar (Pl.nd f.1 f.2.1 id).1=true:=by
  unfold Pl.nd at hn1⊢;rcases Qf5 (Pl.rd f.1.rows ((Pl.wide f.1.st f.2.1).getD id Pl.hole)).1 with e|e
  ·exact e.1.1
  ·rw[e] at hn1;cases hn1
 have hE:Pl.nps f.1.st (Pl.nd f.1 f.2.1 id)=Pl.tps f.1.st (Pl.nd f.1 f.2.1 id).1.tree:=by unfold Pl.nps;rw[hn1];rfl
 rw[hE] at hop;have hb: ∀(hb0:(Pl.bput f.1 (Pl.nd f.1 f.2.1 id).1.tree (Pl.Qah l)).2.2=true),_:=fun hb0=>bput_in hT (X:=Pl.tps f.1.st f.2.1++Pl.ndx f.1 f.2.1 id) (hop.live.perm (by rw[<-A9];exact AA)) hb0
 generalize Pl.bput f.1 (Pl.nd f.1 f.2.1 id).1.tree (Pl.Qah l)=y at*
 have key:y.2.2=true->Pl.Op y.1 f.2.1 id (Pl.tps y.1.st y.2.1)/\(∀k,Pl.nd y.1 f.2.1 k=Pl.nd f.1 f.2.1 k)/\Pl.Tr y.1 y.2.1/\Pl.Qar {(Pl.nd f.1 f.2.1 id).1 with tree:=y.2.1,size:=((Pl.Qah l).length:Nat)}=true:=fun hy=>by
  obtain⟨⟨b1,b2,b3,b4⟩,b5,b6⟩:=hb hy;obtain⟨c1,c2,_⟩:=Qk0 (w':=y.1) (E':=Pl.tps y.1.st y.2.1) hop b3 (by rw[b4];exact Ae _) (b2.perm (by rw[<-A9 (Pl.tps f.1.st f.2.1)];exact AA));exact⟨c1,c2,b1,Qs5 hnok hn2 b1 b5 b6⟩
 obtain⟨d1,d2,d3,d4,d5⟩:=Qm6 (f:=(y.1,f.2.1,!y.2.2)) hid (fun e=>(key (by simpa using e)).1) (fun e _=>(key (by simpa using e)).2.2.1) hok;have hy:y.2.2=true:=by simpa using d1
 obtain⟨_,k2,_,k4⟩:=key hy;refine⟨trivial,d2,d3,fun k hk=>by rw[d4 k hk];exact k2 k,?_⟩;rw[d5,k4];exact⟨rfl,hn2⟩
def Qt9:Pl.Qar Pl.zn=false:=by decide
def QeX(w:Pl.Sto):Pl.Tr w ⟨Pl.hole,0,0⟩/\Pl.tps w.st ⟨Pl.hole,0,0⟩=[]:=by
 have e:=leaves0 w.st (t:=⟨Pl.hole,0,0⟩) rfl;refine⟨⟨⟨by decide,by decide,QcF,by decide,by decide⟩,rfl,by rw[e],by rw[e];intro p hp;rw[AB.1 hp];exact .inl Qct,fun i _=>?_⟩,?_⟩
 ·unfold Pl.wide
  rw[e];show(Pl.hole::A3 15 Pl.hole).getD i Pl.hole=_;rw[<-Ak,A0,List.getElem?_replicate];split<;>rfl
 ·unfold Pl.tps
  rw[Qey rfl,e];unfold Pl.nh;simp[Qct]
def Pl.QaT(w:Pl.Sto)(t:Pl.Tree)(id:Nat)(l:List Pl.Ptr)(many:Nat):Pl.F:=
 if(Pl.tput (w.freeL l) t id []).2.2 then Pl.cut (Pl.tput (w.freeL l) t id []).1 (Pl.tput (w.freeL l) t id []).2.1 many else Pl.tput (w.freeL l) t id []
def Qsj{id many:Nat}{l:List Pl.Ptr}(h:Pl.Fs w t)(hid:id<16)(hl:l.Perm (Pl.nps w.st (Pl.nd w t id)))(hm:many<=16)(hok:(Pl.QaT w t id l many).2.2=true):
 Pl.Fs (Pl.QaT w t id l many).1 (Pl.QaT w t id l many).2.1/\(Pl.QaT w t id l many).2.1.many=many:=by
 have hop:=QgT h hid
 have hlive:Pl.Lv w (l++(Pl.tps w.st t++Pl.ndx w t id)):=hop.live.perm (by
  rw[<-A9]
  exact(AA).trans (AS _ hl.symm))
 obtain⟨g1,g2⟩:=Qh7 l hlive;have htx:=Qgn l w;obtain⟨c1,c2,c3,c4⟩:=Qk0 (w':=w.freeL l) (E':=[]) hop g2 (by rw[htx];exact Ae _) (by rw[Ag];exact g1);unfold Pl.QaT at hok⊢;generalize w.freeL l=u at*;split at hok;rotate_left
 ·rename_i h1;exact absurd hok h1
 rename_i h1;rw[if_pos h1];have hz:Pl.Qaf Pl.zn=[]:=by unfold Pl.Qaf;rw[Qt9];rfl
 have hcl:=Qon (n:=Pl.zn) hid (w:=u) (t:=t) (by rw[show Pl.zn.tree=⟨Pl.hole,0,0⟩ from rfl,(QeX u).2];exact c1) (fun e=>by rw[Qt9] at e;cases e) (by rw[hz];exact h1);rw[hz] at hcl;obtain⟨d1,d2,d3,d4⟩:=hcl;generalize Pl.tput u t id []=y at*;obtain⟨e1,e2,e3,e4,e5,e6,e7⟩:=Qrw d1.tr d1.live hm hok;generalize Pl.cut y.1 y.2.1 many=z at*;refine⟨⟨e1,?_,?_⟩,e2⟩
 ·intro k hk hn
  by_cases hkm:k<many
  ·have hnd:Pl.nd z.1 z.2.1 k=Pl.nd y.1 y.2.1 k:=by
    unfold Pl.nd;rw[e6 k hkm,QlY];cases hh:Pl.ptrHole ((Pl.wide y.1.st y.2.1).getD k Pl.hole)
    ·refine .inr (e7 _ (QdF.2 ⟨?_,hh⟩))
     have hwl:=QcH y.1.st d1.tr.good.hi;rw[A0,A2 (by omega)];exact Al.2 ⟨k,by omega,rfl⟩
    ·exact .inl rfl
   rw[hnd] at hn⊢;have hT:=d1.nod k hk hn;refine(Qej (w':=z.1) hT (fun q hq=>e4 q ?_) (by rw[e5];exact Ae _)).1;unfold Pl.nds;refine Aa.2 ⟨k,A7.2 hk,?_⟩;unfold Pl.nps;rw[hn];exact Qen hq
  ·unfold Pl.nd at hn
   rw[e1.top k (by rw[e2];omega),QdD,QhO] at hn;cases hn
 ·have hsub:(Pl.nds z.1 z.2.1).Sublist (Pl.nds y.1 y.2.1):=by
   unfold Pl.nds
   have hg: ∀l:List Nat,(∀k∈l,k<16)->(l.flatMap fun k=>Pl.nps z.1.st (Pl.nd z.1 z.2.1 k)).Sublist (l.flatMap fun k=>Pl.nps y.1.st (Pl.nd y.1 y.2.1 k)):=by
    intro l;induction l with
    |nil=>intro _;exact .slnil
    |cons k l ih=>
     intro hl;rw[AI,AI];refine BM ?_ (ih fun j hj=>hl j (AJ _ hj));have hk:=hl k AP
     by_cases hkm:k<many
     ·have hnd:Pl.nd z.1 z.2.1 k=Pl.nd y.1 y.2.1 k:=by
       unfold Pl.nd;rw[e6 k hkm,QlY];cases hh:Pl.ptrHole ((Pl.wide y.1.st y.2.1).getD k Pl.hole)
       ·refine .inr (e7 _ (QdF.2 ⟨?_,hh⟩))
        have hwl:=QcH y.1.st d1.tr.good.hi;rw[A0,A2 (by omega)];exact Al.2 ⟨k,by omega,rfl⟩
       ·exact .inl rfl
      rw[hnd];unfold Pl.nps;cases hn:(Pl.nd y.1 y.2.1 k).2
      ·exact B3 _
      ·simp only[if_true]
       rw[(Qej (w':=z.1) (d1.nod k hk hn) (fun q hq=>e4 q (by
        unfold Pl.nds;refine Aa.2 ⟨k,A7.2 hk,?_⟩
        unfold Pl.nps;rw[hn];exact Qen hq)) (by rw[e5];exact Ae _)).2.2.2.1]
       exact B3 _
     ·have:Pl.nps z.1.st (Pl.nd z.1 z.2.1 k)=[]:=by
       unfold Pl.nd;rw[e1.top k (by rw[e2];omega),QdD,QhO];rfl
      rw[this];exact List.nil_sublist _
   exact hg _ fun k hk=>A7.1 hk
  obtain⟨R,hR⟩:=Qnb hsub;refine e3.sub (R:=R) ?_;rw[A9];exact AD _ hR
attribute [local irreducible] EndR
theorem Qnn: ∀(n m:Nat) (s:List UInt8),s.length<=n->s.length<=m->Pl.pcs n s=Pl.pcs m s
 |0,0,s,_,_=>rfl
 |0,m+1,s,h,_=>by
  have:s=[]:=AR.1 (by omega);subst this;rfl
 |n+1,0,s,_,h=>by
  have:s=[]:=AR.1 (by omega);subst this;rfl
 |n+1,m+1,s,h1,h2=>by
  unfold Pl.pcs;split
  ·rfl
  ·rename_i h0
   have:=AM.2 h0;rw[Qnn n m (s.drop 128) (by rw[AF];omega) (by rw[AF];omega)]
def QnL{s:List UInt8}(h:s≠[]):Pl.cuts s=s.take 128::Pl.cuts (s.drop 128):=by
 have:=AM.2 h;unfold Pl.cuts;obtain⟨n,hn⟩: ∃n,s.length=n+1:=⟨s.length -1,by omega⟩;rw[hn];show(if s=[] then [] else s.take 128::Pl.pcs n (s.drop 128))=_;rw[if_neg h,Qnn n (s.drop 128).length _ (by rw[AF];omega) (AQ _)]
def QnK:Pl.cuts []=[]:=rfl
def QoY{s:List UInt8}(h:s≠[])(h2:s.length<=128):Pl.cuts s=[s]:=by
 rw[QnL h,AC h2,Aq h2,QnK]
def QrR(s:List UInt8)(hs:s.length<=1000000000000):Pure A1 223 [dS s] (tStrs (Pl.cuts s)):=by
 refine kE ?_
 repeat refine kA ?_
 refine QbS (fun m st=> ∃(g:Nat) (out:List (List UInt8)) (r:List UInt8),m=r.length/\out.length+r.length<=s.length/\AZ (out++Pl.cuts r=Pl.cuts s)/\st=⟨22,[(3,.osl 0 g 0 out.length),(0,.d (dS r))],[.arr g 1 9 (out.map fun s=>[dS s])]⟩) [3,0] 1 s.length ⟨0,[],s,rfl,by simp,Pm.hid rfl,rfl⟩ (round:=?_);rintro m st ⟨g,out,r,rfl,hlen,hO,rfl⟩
 repeat refine kG ?_
 cases q3:decide ((r.length:Int)>128)
 ·have hr:r.length<=128:=by simp at q3;omega
  have h1:AZ (r=[]->out=Pl.cuts s):=Pm.hid fun h=>by have:=hO.out;rw[h,QnK,Ag] at this;exact this
  have h2:AZ (r≠[]->out++[r]=Pl.cuts s):=Pm.hid fun h=>by have:=hO.out;rw[QoY h hr] at this;exact this
  clear hO;generalize Pl.cuts s=res at*
  repeat' first|refine kS ?_|refine Qci Ty.h rfl Ty.h (hb:=?_) (kk:=?_)|refine kU ?_|refine kV ?_ ?_<;>intro q|fail
  all_goals first
   |(simp;omega)
   |((refine QbP 0 (h:=?_);refine QbQ (hx:=?_))
     first
      |(rw[<-h2.out (by simpa using q)];simp[AC];done)
      |(rw[<-h1.out (by simpa using q)];simp[AC];done))
 have hr:128<r.length:=by simp at q3;omega
 have h2:AZ (Pl.cuts r=r.take 128::Pl.cuts (r.drop 128)):=Pm.hid (QnL (by intro e;rw[e] at hr;simp at hr))
 repeat' first|refine kS ?_|refine Qci Ty.h rfl Ty.h (hb:=?_) (kk:=?_)|refine qS (QdS rfl rfl rfl (by omega) (by omega)) ?_|refine qS (Qew rfl rfl rfl (by omega) (by omega)) ?_|refine kU ?_|fail
 all_goals first
  |(simp;omega)
  |(refine QbR (r.drop 128).length (by rw[AF];omega) ⟨g+1,out++[r.take 128],r.drop 128,rfl,by simp;omega,Pm.hid (by rw[<-hO.out,h2.out];simp),?_⟩
    simp[keepE,go_sem];done)
def Pl.QaB(l:List (List UInt8))(but:Nat):Nat:=(A5 l.length).foldl (fun n k=>if k≠but/\l.getD k []≠[] then k+1 else n) 0
def Qgl(l:List (List UInt8))(but:Nat):Pl.QaB l but<=l.length:=by
 have: ∀n,n<=l.length->(A5 n).foldl (fun n k=>if k≠but/\l.getD k []≠[] then k+1 else n) 0<=n:=by
  intro n;induction n with
  |zero=>intro _;exact AQ _
  |succ n ih=>
   intro h;rw[Ah,AT];simp only[As,Ax];have:=ih (by omega);split<;>omega
 exact this _ (AQ _)
theorem QoK{l:List (List UInt8)}{but:Nat}(hk:k<l.length)(h1:k≠but)(h2:l.getD k []≠[]):1<=Pl.QaB l but:=by
 have: ∀n,k<n->1<=(A5 n).foldl (fun n k=>if k≠but/\l.getD k []≠[] then k+1 else n) 0:=by
  intro n;induction n with
  |zero=>intro h;omega
  |succ n ih=>
   intro h;rw[Ah,AT];simp only[As,Ax];split
   ·omega
   ·rename_i hc
    by_cases hkn:k=n
    ·subst hkn;exact absurd ⟨h1,h2⟩ hc
    ·exact ih (by omega)
 exact this _ hk
theorem Qt2(s:Pm.Store)(hg:Pl.Good s)(t:Pl.Tree)(ht:Pl.TGood t)(but:Nat):Pure A1 194 [dSt s,dTree t,dI but] (dI (Pl.QaB (Pl.Qaa s t) but)):=by
 have c1:=Qeg s hg t ht;have hl:=texts_len s ht;have hm0:=ht.manyLo;have hm1:=ht.manyHi;generalize Pl.Qaa s t=l at*;refine kE ?_;refine QbP 0 (h:=?_);refine QbP 1 (h:=?_)
 repeat refine kA ?_
 refine QbS (fun m st=> ∃(k n:Nat),k<=l.length/\m=l.length -k/\n<=k/\AZ (n=(A5 k).foldl (fun n k=>if k≠but/\l.getD k []≠[] then k+1 else n) 0)/\st=⟨32,[(9,.d (dI k)),(8,.d (tStrs l)),(7,.d (dI n)),(4,.d (.pd (rTree t))),(2,.d (dI but))],[.row 1 [],.row 1 []]⟩) [9,8,7,4,2] 2 l.length ⟨0,0,by omega,rfl,by omega,Pm.hid rfl,rfl⟩ (round:=?_);rintro m st ⟨k,n,hk,rfl,hnk,hn,rfl⟩
 repeat refine kG ?_
 cases q4:decide ((k:Int)<t.many)
 ·repeat refine kA ?_
  refine QbQ (hx:=?_);have:k=l.length:=by simp at q4;omega
  rw[hn.out,this];rfl
 have hk2:k<l.length:=by simp at q4;omega
 obtain⟨x,hx⟩: ∃x,l[k]? =some x:=⟨_,A2 hk2⟩;have hr:=QbV (f:=fun s=>[dS s]) hx
 have T:AZ ((A5 (k+1)).foldl (fun n k=>if k≠but/\l.getD k []≠[] then k+1 else n) 0=if k≠but/\x≠[] then k+1 else n):=Pm.hid (by
  rw[Ah,AT,<-hn.out];simp only[As,Ax]
  rw[A0,hx];rfl)
 clear hx hn
 repeat' first|refine kS ?_|refine qS (iy hr) ?_|refine kU ?_|refine kV ?_ ?_<;>intro q|fail
 all_goals first|refine QbR (l.length -(k+1)) (by omega) ⟨k+1,k+1,by omega,rfl,by omega,Pm.hid (by rw[T.out,if_pos (by simp_all;omega)]),?_⟩;simp[keepE,go_sem];done|refine QbR (l.length -(k+1)) (by omega) ⟨k+1,n,by omega,rfl,by omega,Pm.hid (by rw[T.out,if_neg (by simp_all;omega)]),?_⟩;simp[keepE,go_sem];done|refine QbR (l.length -(k+1)) (by omega) ⟨k+1,k+1,by omega,rfl,by omega,Pm.hid (by rw[T.out,if_pos (by simp_all)]),?_⟩;simp[keepE,go_sem];done|refine QbR (l.length -(k+1)) (by omega) ⟨k+1,n,by omega,rfl,by omega,Pm.hid (by rw[T.out,if_neg (by simp_all)]),?_⟩;simp[keepE,go_sem];done
def Pl.Qbz(l:List (List UInt8)):Option Nat:=(A5 16).find? fun k=>decide (l.length<=k)||l.getD k []==[]
def Qim{l:List (List UInt8)}(h:Pl.Qbz l=some k):k<16/\l.getD k []=[]:=by
 have h1:=List.mem_of_find?_eq_some h;have h2:=List.find?_some h;refine⟨A7.1 h1,?_⟩;simp only[Bool.or_eq_true,decide_eq_true_eq,beq_iff_eq] at h2;rcases h2 with h2|h2
 ·rw[A0,List.getElem?_eq_none h2];rfl
 ·exact h2
def QmB{p:Nat->Bool}(h: ∀i,i<16->p i=false):(A5 16).find? p=none:=by
 rw[List.find?_eq_none];intro x hx;rw[h x (A7.1 hx)];simp
def QmA{p:Nat->Bool}(h: ∀i,i<k->p i=false)(hk:k<16)(hp:p k=true):(A5 16).find? p=some k:=by
 rw[List.find?_eq_some_iff_getElem];exact⟨hp,k,by simpa using hk,by simp,fun j hj=>by simp[h j hj]⟩
def Qt3(s:Pm.Store)(hg:Pl.Good s)(t:Pl.Tree)(ht:Pl.TGood t):Pure A1 145 [dSt s,dTree t] (dI (Pl.atI (Pl.Qbz (Pl.Qaa s t)))):=by
 have c1:=Qeg s hg t ht;have hl:=texts_len s ht;have hm0:=ht.manyLo;have hm1:=ht.manyHi;generalize Pl.Qaa s t=l at*;refine kE ?_;refine QbP 0 (h:=?_);refine QbP 1 (h:=?_)
 repeat refine kA ?_
 refine QbS (fun m st=> ∃k:Nat,k<=16/\m=16 -k/\AZ (∀i,i<k->(decide (l.length<=i)||l.getD i []==[])=false)/\st=⟨26,[(6,.d (dI k)),(5,.d (tStrs l))],[.row 1 [],.row 1 []]⟩) [6,5] 2 16 ⟨0,by omega,rfl,Pm.hid (fun i hi=>by omega),rfl⟩ (round:=?_);rintro m st ⟨k,hk,rfl,hA,rfl⟩
 repeat refine kG ?_
 cases q4:decide ((k:Int)<16)
 ·have:k=16:=by simp at q4;omega
  have hres:AZ (Pl.Qbz l=none):=Pm.hid (QmB fun i hi=>hA.out i (by omega))
  repeat refine kA ?_
  all_goals exact QbQ (hx:=by rw[hres.out];rfl)
 have hk2:k<16:=by simp at q4;omega
 have F:AZ ((decide (l.length<=k)||l.getD k []==[])=true->Pl.Qbz l=some k):=Pm.hid fun h=>QmA hA.out hk2 h
 have T:AZ ((decide (l.length<=k)||l.getD k []==[])=false-> ∀i,i<k+1->(decide (l.length<=i)||l.getD i []==[])=false):=Pm.hid fun h i hi=>by
  by_cases hik:i=k
  ·rw[hik];exact h
  ·exact hA.out i (by omega)
 clear hA
 by_cases hkl:k<l.length
 ·obtain⟨x,hx⟩: ∃x,l[k]? =some x:=⟨_,A2 hkl⟩
  have hr:=QbV (f:=fun s=>[dS s]) hx;rw[A0,hx,Ab,decide_eq_false (by omega),BE] at F T;clear hx
  repeat' first|refine kS ?_|refine qS (iy hr) ?_|refine kU ?_|refine kV ?_ ?_<;>intro q|fail
  all_goals first|exfalso;simp only[decide_eq_true_eq] at*;omega|exact QbQ (hx:=by rw[F.out (by assumption)];rfl)|refine QbR (16 -(k+1)) (by omega) ⟨k+1,by omega,rfl,Pm.hid (T.out (by assumption)),?_⟩;simp[keepE,go_sem];done
 ·rw[decide_eq_true (by omega),Bool.true_or] at F
  repeat' first|refine kA ?_|refine kV ?_ ?_<;>intro q|fail
  all_goals first|exact QbQ (hx:=by rw[F.out rfl];rfl)|exfalso;simp only[decide_eq_false_iff_not] at*;omega
def QsK:(A1.info? 5).map (fun i=>(i.zero,i.size,i.bytes))=some (some (.int .u8 0),1,1):=by kernel_rfl
def alZeros(z:Int)(h:z<=100000):Pure A1 198 [dI z] (dS (A3 z.toNat 0)):=by
 refine Qc4 (vs:=[.int .i64 z]) (x:= .string ⟨(A3 z.toNat (0:UInt8)).toArray⟩) rfl fun w _=>?_
 have hmx: ∃n:Nat,z.toNat=n/\max 0 z=(n:Int)/\n<=100000:=⟨z.toNat,rfl,by omega,by omega⟩;obtain⟨n,hn,hm,hnl⟩:=hmx;rw[hn];have hso:strOfNums (A3 n 0)=⟨(A3 n (0:UInt8)).toArray⟩:=by unfold strOfNums;rw[List.map_replicate];rfl
 have hmk:=Pm.run_mk (P:=A1) 22 5 _ 1 1 B4 QsK n (by omega) (by omega) w
 have hcv:=run_convert_bytes_arg (P:=A1) (w.alloc (.cells (madeCells (Value.int .u8 0).cells (n*1)) 5)) 22 5 B4 Tryz.underlying5 w.heap.size 0 n n (A3 n 0) (by simp) (fun i hi=>by
  rw[BG,cell_of_row _ _ i _ _ _ (Qdp _ _)]
  simp[madeCells,BI,Nat.mod_one,A0,hi]) 9 Tryz.underlying9
 simp only[BI,Nat.mul_one] at hmk hcv;rw[hso] at hcv;clear hso;rw[<-hm] at hmk;clear h hm hn hnl
 go_enter Tryz.func198,Tryz.ntmps198
 go_wp2
 all_goals
  go_ret
  exact⟨rfl,Pm.bnew _ _⟩
def Pl.t13(size:Int)(l:List (List UInt8)):Nat->List UInt8
 |0=>[]
 |k+1=>Pl.t13 size l k++l.getD k []++A3 (Pl.long size k -(l.getD k []).length).toNat 0
def QmX(size:Int)(l:List (List UInt8))(h: ∀x∈l,x.length<=128): ∀k,(Pl.t13 size l k).length<=140*k
 |0=>by simp[Pl.t13]
 |k+1=>by
  have h1:=QmX size l h k
  have h2:(l.getD k []).length<=128:=by
   rw[A0];cases h3:l[k]? with
   |none=>simp
   |some x=>exact h x (A4 h3)
  have h4:Pl.long size k<=12:=by unfold Pl.long;split<;>omega
  simp only[Pl.t13,A6,AY];omega
def QtC(size:Int)(l:List (List UInt8)): ∀k:Nat,(if size<12*k then size else 12*k)<=((Pl.t13 size l k).length:Int)
 |0=>by simp[Pl.t13];split<;>omega
 |k+1=>by
  have h1:=QtC size l k;have h4:Pl.long size k=if size -k*12<12 then size -k*12 else 12:=rfl
  simp only[Pl.t13,A6,AY];rw[h4];split at h1<;>split<;>split<;>omega
def QlI(s:Pm.Store)(hg:Pl.Good s)(n:Pl.Node)(ht:Pl.TGood n.tree)(hs:0<=n.size/\n.size<=2048):Pure A1 197 [dSt s,dNode n] (dS (Pl.t13 n.size (Pl.Qaa s n.tree) n.tree.many.toNat)):=by
 have c:=Qeg s hg n.tree ht;have hl:=texts_len s ht;have hx1:=texts_le s hg n.tree;have hm:=ht.manyHi;have hm0:=ht.manyLo;clear ht;generalize Pl.Qaa s n.tree=l at*;obtain⟨kind,links,size,⟨⟨p1,p2,p3,p4,p5⟩,depth,many⟩⟩:=n;simp only at hs hl hm hm0 c⊢;rw[<-hl];refine kE ?_;refine QbP 0 (h:=?_);refine QbP 1 (h:=?_)
 repeat refine kA ?_
 refine QbS (fun m st=> ∃(k:Nat),k<=l.length/\m=16 -k/\
  st=⟨37,[(6,.d (tStrs l)),(7,.d (dI k)),(5,.d (dS (Pl.t13 size l k))),(3,.d (.pd (rNode ⟨kind,links,size,⟨⟨p1,p2,p3,p4,p5⟩,depth,many⟩⟩)))],[]⟩) [6,7,5,3] 0 16 ⟨0,by omega,rfl,rfl⟩ (round:=?_)
 rintro m st ⟨k,hk,rfl,rfl⟩
 repeat refine kG ?_
 cases q4:decide ((k:Int)<many)
 ·repeat refine kA ?_
  refine QbQ (hx:=?_);have:k=l.length:=by simp at q4;omega
  rw[this]
 have hk2:k<l.length:=by simp at q4;omega
 obtain⟨x,hx⟩: ∃x,l[k]? =some x:=⟨_,A2 hk2⟩;have hr:=QbV (f:=fun s=>[dS s]) hx;have hxl:=hx1 x (A4 hx);have hd:l.getD k []=x:=by rw[A0,hx];rfl
 have hst:AZ (Pl.t13 size l (k+1)=Pl.t13 size l k++x++A3 (Pl.long size k -x.length).toNat 0):=Pm.hid (by rw[<-hd];rfl);have c13:=Qoh size k hs.1 hs.2 (by omega);have h12:Pl.long size k<=12:=by unfold Pl.long;split<;>omega
 have h11: -2000<=Pl.long size k:=by unfold Pl.long;split<;>omega
 have cz:=alZeros (Pl.long size k -x.length) (by omega);have hpl:=QmX size l hx1 k;have hlr:(A3 (Pl.long size k -x.length).toNat (0:UInt8)).length<=12:=by rw[AY];omega
 clear hx hx1 hd;generalize Pl.t13 size l k=tk at*;generalize A3 (Pl.long size k -x.length).toNat (0:UInt8)=zs at*
 repeat' first|refine kS ?_|refine qS (iy hr) ?_|refine qS (Qcc rfl rfl (by first|omega|(simp only[A6];omega))) ?_|refine kU ?_|fail
 all_goals first
  |(refine QbR (16 -(k+1)) (by omega) ⟨k+1,by omega,rfl,?_⟩
    rw[hst.out]
    simp[keepE,go_sem];done)
attribute [local irreducible] Fk.PlanF Fk.Flts Fk.AStepM Fk.Grew Fk.Gs
def eCut(g:Nat)(w:Pl.Sto)(N:Nat)(hN:N<=800000)(hw:w.W N)(t:Pl.Tree)(ht:Pl.TGood t)(many:Nat)(hm:many<=16):
 DoesE A1 195 [oS g w,.d (dTree t),.d (dI many)] (hS g w) (gS g w) (fun x H=> ∃g',((Pl.cut w t many).2.2=false->g'=g)/\x= .tup [oS g' (Pl.cut w t many).1,.d (dTree (Pl.cut w t many).2.1),.d (dB (Pl.cut w t many).2.2)]/\H=hS g' (Pl.cut w t many).1):=by
 have hd:=Pm.hid (Pl.cut.eq_def w t many);have hgood:=hw.good;have c1:=dWide w.st hgood t ht;have hl:=QcH w.st ht.hi;have ho:=Qe9 w.st ht.root;have c2:=pinS (X:=fun g'=> .tup [oS g' (Pl.lay w t (Pl.wide w.st t) many).1,.d (dTree (Pl.lay w t (Pl.wide w.st t) many).2.1),.d (dB (Pl.lay w t (Pl.wide w.st t) many).2.2)]) (C:=fun g'=>(Pl.lay w t (Pl.wide w.st t) many).2.2=false->g'=g) (eLay g w N (by omega) hw t ht.root (Pl.wide w.st t) hl ho many hm);have hW:=(lay_W hw ht.root ho hm).1;have hsim:=fun h=>Qid (w:=w) (t:=t) (leaves:=Pl.wide w.st t) (many:=many) h
 have hT:((Pl.wide w.st t).map rPtr).take 16=(Pl.wide w.st t).map rPtr:=AC (by simp[hl])
 have hfl:[Blk.arr 2 5 31 ((Pl.wide w.st t).map rPtr)].all Blk.flat=true:=by
  simp[Blk.flat];intro x _;exact⟨rfl,rfl,rfl,rfl,rfl⟩
 generalize Pl.cut w t many=res at*;generalize Pl.wide w.st t=wd at*;generalize Pl.lay w t wd many=y at*;obtain⟨w2,t2,ok2⟩:=y;simp only at c2 hd hW hsim
 by_cases hq:(many:Int)=t.many
 ·rw[if_pos hq] at hd
  clear c1 c2 hsim;have hb:AZ (((many:Int)==t.many)=true):=Pm.hid (by simpa using hq);refine kH fun gvs=>?_
  refine QbP 6 (h:=?_)
  repeat' first|refine kS ?_|(show AWP _ (.region 2 _ _) _ _;refine(Fg.awp_drawF (id:=2) [1] [2,3] ?_))|refine kU ?_|refine kV ?_ ?_<;>intro q|fail
  all_goals first|exact absurd (hb.out.symm.trans ‹((many:Int)==t.many)=false›) (by decide)|refine Qca 5 (hx:=?_);rw[hd.out];exact⟨g,fun _=>rfl,rfl,rfl⟩
 rw[if_neg hq] at hd;have hb:AZ (((many:Int)==t.many)=false):=Pm.hid (by simpa using hq);rw[<-show(AV.d (.sl true 5 ((wd.map rPtr).take 16)))= .d (tPtrs wd) by rw[hT]] at c2;have hm0:=ht.manyLo;have hm1:=ht.manyHi;have w0:w2.rows.length=w.rows.length:=by rw[hW.rows,hw.rows]
 have w1:w2.refs.length=w.refs.length:=by rw[hW.refs,hw.refs]
 have wl2:w2.last.length=w.last.length:=by rw[hW.last,hw.last]
 cases ok2
 ·obtain⟨z1,z2,z3⟩:=hsim rfl
  have z4:w2.gone.length=w.gone.length:=by rw[z1]
  simp only[AO,if_false] at hd;clear hsim;refine kH fun gvs=>?_
  refine QbP 6 (h:=?_)
  repeat' first|refine kS ?_|refine(QcZ (ds:=[dTree t]) c1 cK hw rfl hfl (k:=?_))|refine(QbP 9 (C:= .arr 2 5 31 (wd.map rPtr)) (h:=?_))|(refine QbX [0,1,2,3,4] c2 cK (k:=?_);rintro _ _ ⟨g2,hg2,hC,rfl,rfl⟩;refine QcC (k:=?_))|(show AWP _ (.region 6 _ _) _ _;refine(Fg.awp_drawF (id:=6) [1] [2,3] ?_))|refine kU ?_|refine kV ?_ ?_<;>intro q|fail
  all_goals first
   |exact absurd (hb.out.symm.trans ‹((many:Int)==t.many)=true›) (by decide)
   |(obtain rfl:=hC rfl
     refine Qca 5 (hx:=?_);rw[hd.out];refine⟨_,fun _=>rfl,?_,rfl⟩
     simp only[oS,z1,z2,z3];rfl)
 simp only[if_true] at hd;clear hsim;refine kH fun gvs=>?_
 refine QbP 6 (h:=?_)
 repeat' first|refine kS ?_|refine(QcZ (ds:=[dTree t]) c1 cK hw rfl hfl (k:=?_))|refine(QbP 9 (C:= .arr 2 5 31 (wd.map rPtr)) (h:=?_))|(refine QbX [0,1,2,3,4] c2 cK (k:=?_);rintro _ _ ⟨g2,hg2,hC,rfl,rfl⟩;refine QcC (k:=?_))|refine kU ?_|refine kV ?_ ?_<;>intro q|fail
 all_goals first|exact absurd (hb.out.symm.trans ‹((many:Int)==t.many)=true›) (by decide)|skip
 refine QbP 11 (h:=?_);refine QcO [13,9,10,11,6,7,1000000] [0,1,2,3,4,7,8,10] (env':=[(13,.d (dI many)),(9,.d (.sl true 5 ((wd.map rPtr).take 16))),(10,.ptr 7 0 0),(11,.d (.pd [dI t2.root.pat,dI t2.root.birth,dI t2.root.size,dI t2.root.sum,dI t2.root.level,dI t2.depth,dI t2.many])),(6,.ptr 5 0 0),(7,.ptr 6 0 0),(1000000,.gh (gS g w) gvs)]) (H':=hS g2 w2++[.row 0 zSt,.row 0 zTr,.row 0 (rowS g2 w2)]) (h:=?_);rw[hT];clear c1 c2 hT hC
 refine QbS (fun m st=> ∃(i g3:Nat) (wi:Pl.Sto),many<=i/\i<=16/\m=16 -i/\AZ (wi=w2.freeL ((wd.take i).drop many))/\AZ (wi.W (N+13+(i -many)))/\(g<g3∨g3=g/\wi.gone.length=w.gone.length)/\
  st=⟨51,[(13,.d (dI i)),(9,.d (tPtrs wd)),(10,.ptr 7 0 0),(11,.d (.pd [dI t2.root.pat,dI t2.root.birth,dI t2.root.size,dI t2.root.sum,dI t2.root.level,dI t2.depth,dI t2.many])),(6,.ptr 5 0 0),(7,.ptr 6 0 0),(1000000,.gh (gS g w) gvs)],hS g3 wi++[.row 0 zSt,.row 0 zTr,.row 0 (rowS g3 wi)]⟩) [13,9,10,11,6,7,1000000] 8 (16 -many)
  ⟨many,g2,w2,by omega,hm,rfl,Pm.hid (by rw[Aq (by rw[Ac];omega)];rfl),Pm.hid (hW.le (by omega)),hg2,rfl⟩ (round:=?_)
 rintro m st ⟨i,g3,wi,hi1,hi2,rfl,hwi,hWi,hg3,rfl⟩;have hW3:=hWi.out;simp only[hS,BA,Ar]
 repeat refine kG ?_
 cases q4:decide ((i:Int)<(wd.length:Int))
 ·have hi:i=16:=by simp at q4;omega
  have hw3:=hwi.out;rw[hi,AC (by omega)] at hw3;rw[<-hw3] at hd;have v0:wi.rows.length=w.rows.length:=by rw[hW3.rows,hw.rows]
  have v1:wi.refs.length=w.refs.length:=by rw[hW3.refs,hw.refs]
  have v2:wi.last.length=w.last.length:=by rw[hW3.last,hw.last]
  clear hwi hWi hw3
  repeat' first|refine kS ?_|(show AWP _ (.region 11 _ _) _ _;refine(Fg.awp_drawF (id:=11) [1] [2,3] ?_))|refine kU ?_|fail
  all_goals first|(rcases hg3 with hg3|⟨rfl,hg3⟩<;>(refine Qca 5 (hx:=?_);rw[hd.out];refine⟨_,?_,rfl,rfl⟩;intro h;cases h))
 have hi:i<wd.length:=by simp at q4;omega
 obtain⟨x,hx⟩: ∃x,wd[i]? =some x:=⟨_,A2 hi⟩;have hr:=QbV (f:=rPtr) hx;have hxo:=ho x (A4 hx);have cf:=eFree2 g3 wi (N+13+(i -many)) (by omega) hW3 x hxo;have hWf:=(hW3.free hxo).le (M:=N+13+(i+1 -many)) (by omega)
 have hst:AZ (w2.freeL ((wd.take (i+1)).drop many)=wi.free x):=Pm.hid (by
  rw[AU,hx,List.drop_append_of_le_length (by rw[Ac];omega),hwi.out];unfold Pl.Sto.freeL
  rw[AT];rfl)
 clear hx hwi hWi;generalize wi.free x=wf at*
 repeat' first|refine kS ?_|refine qD (iy hr) ?_|(show AWP _ (.region 10 _ _) _ _;refine(Fg.awp_drawF (id:=10) [] [5,6] ?_))|(refine QdZ [0,1,2,3,4] cf cK (k:=?_);rintro _ _ ⟨g4,hg4,rfl,rfl⟩;refine Qkr (k:=?_))|refine kU ?_|fail
 all_goals first|refine QbR (16 -(i+1)) (by omega) ⟨i+1,g4,wf,by omega,by omega,rfl,Pm.hid hst.out.symm,Pm.hid hWf,(by rcases hg3 with h1|⟨h1,h2⟩<;>rcases hg4 with h3|⟨h3,h4⟩<;>first|(left;omega)|(right;exact⟨by omega,by omega⟩)),?_⟩;simp[keepE,go_sem];done
theorem Qfa{S:Nat->Prop}{g:Nat}{len:Nat}{v:BJ}(hk:k≠3)(h:Rel σ S (hS g1 w') wd (.osl k g 0 len) v):Rel σ S (hS g2 w') wd (.osl k g 0 len) v:=by
 cases h with
 |osl _ _ _ _ _ ho g' sz T rows hb hg h=>
  refine .osl _ _ _ _ _ ho g' sz T rows ?_ hg h
  grind
def Qst{S:Nat->Prop}{len:Nat}{v:BJ}(h:Rel σ S (hS g1 w') wd (.osl 3 g1 0 len) v):Rel σ S (hS g2 w') wd (.osl 3 g2 0 len) v:=by
 cases h with
 |osl _ _ _ _ _ ho g' sz T rows hb hg h=>
  cases hb;exact .osl _ _ _ _ _ ho _ _ _ _ rfl (AQ _) fun _=>h rfl
def Qge{S:Nat->Prop}{x:D}{v:BJ}(h:Rel σ S (hS g1 w') wd (.d x) v):Rel σ S (hS g2 w') wd (.d x) v:=by
 cases h with
 |d _ _ h=>exact .d _ _ h
def rel_oS{S:Nat->Prop}{v:BJ}(h:Rel σ S (hS g1 w') wd (oS g1 w2) v):Rel σ S (hS g2 w') wd (oS g2 w2) v:=by
 cases h with
 |agg _ cs hl h=>
  refine .agg _ cs hl fun i d x hd hx=>?_
  match i,hd,hx with
  |0,hd,hx=>cases hd;exact Qfa (by decide) (h 0 _ x rfl hx)
  |1,hd,hx=>cases hd;exact Qfa (by decide) (h 1 _ x rfl hx)
  |2,hd,hx=>cases hd;exact Qfa (by decide) (h 2 _ x rfl hx)
  |3,hd,hx=>cases hd;exact Qge (h 3 _ x rfl hx)
  |4,hd,hx=>cases hd;exact Qst (h 4 _ x rfl hx)
  |5,hd,hx=>cases hd;exact Qge (h 5 _ x rfl hx)
  |6,hd,hx=>cases hd;exact Qfa (by decide) (h 6 _ x rfl hx)
  |7,hd,hx=>cases hd;exact Qge (h 7 _ x rfl hx)
  |i+8,hd,hx=>cases hd
def Qf4{S:Nat->Prop}{b:D}{v:BJ}(h:Rel σ S (hS g1 w') wd (.tup [oS g1 w2,.d a,.d b]) v):Rel σ S (hS g2 w') wd (.tup [oS g2 w2,.d a,.d b]) v:=by
 cases h with
 |tup _ cs hl h=>
  refine .tup _ cs hl fun i d x hd hx=>?_
  match i,hd,hx with
  |0,hd,hx=>cases hd;exact rel_oS (h 0 _ x rfl hx)
  |1,hd,hx=>cases hd;exact Qge (h 1 _ x rfl hx)
  |2,hd,hx=>cases hd;exact Qge (h 2 _ x rfl hx)
  |i+3,hd,hx=>cases hd
def sm_tag{B:Bs}{S:Nat->Prop}(h:Sm B σ S (hS g1 w') wd):Sm B σ S (hS g2 w') wd:=
 {h with
  blk:=fun k C hC=>by
   match k,hC with
   |0,hC=>cases hC;exact h.blk 0 _ rfl
   |1,hC=>cases hC;exact h.blk 1 _ rfl
   |2,hC=>cases hC;exact h.blk 2 _ rfl
   |3,hC=>cases hC;exact h.blk 3 _ rfl
   |4,hC=>cases hC;exact h.blk 4 _ rfl
   |k+5,hC=>cases hC}
theorem DoesE.tag{f:BN}{g:Nat}{X:Nat->AV}{C:Nat->Prop}(h:DoesE A1 f args (hS g w) (gS g w) (fun x H=> ∃g',C g'/\x=X g'/\H=hS g' w'))
 (hX: ∀{σ:Sg} {S:Nat->Prop} {g1 g2:Nat} {wd:World} {v:BJ},Rel σ S (hS g1 w') wd (X g1) v->Rel σ S (hS g2 w') wd (X g2) v):
 DoesE A1 f args (hS g w) (gS g w) (fun x H=>x=X (g+1)/\H=hS (g+1) w'):=by
 intro B σ S w0 cargs gvs h1 h2 h3 h4 h5 h6;refine(h B σ S w0 cargs gvs h1 h2 h3 h4 h5 h6).mono ?_;rintro _ _ ⟨x,H1,⟨g',h0,rfl,rfl⟩,h7,v,σ',S',rfl,h8,h9,h10⟩;refine⟨_,_,⟨rfl,rfl⟩,fun i C0 hC=>?_,v,σ',S',rfl,sm_tag h8,hX h9,fun i d v hd hv=>?_⟩
 ·obtain⟨C',e1,e2⟩:=h7 i C0 hC
  match i,hC,e1 with
  |0,hC,e1=>grind
  |1,hC,e1=>grind
  |2,hC,e1=>grind
  |3,hC,e1=>cases hC;exact⟨_,rfl,rfl,rfl,.inl (Nat.lt_succ_self g)⟩
  |4,hC,e1=>grind
  |i+5,hC,e1=>cases hC
 ·have e:=h10 i d v hd hv
  match i,hd with
  |0,hd=>cases hd;exact Qfa (by decide) e
  |1,hd=>cases hd;exact Qfa (by decide) e
  |2,hd=>cases hd;exact Qfa (by decide) e
  |3,hd=>cases hd;cases e with
   |osl _ _ _ _ _ ho g2 sz T rows hb hg h=>exact .osl _ _ _ _ _ ho _ _ _ _ rfl (Nat.le_succ g) fun h=>absurd h (by omega)
  |4,hd=>cases hd;exact Qfa (by decide) e
  |i+5,hd=>cases hd
theorem DoesE.tag3{f:BN}{g:Nat}{ok:Bool}(h:DoesE A1 f args (hS g w) (gS g w) (fun x H=> ∃g',(ok=false->g'=g)/\x= .tup [oS g' w2,.d a,.d (dB ok)]/\H=hS g' w')):
 DoesE A1 f args (hS g w) (gS g w) (fun x H=>x= .tup [oS (if ok then g+1 else g) w2,.d a,.d (dB ok)]/\H=hS (if ok then g+1 else g) w'):=by
 cases ok
 ·grind
 ·exact h.tag Qf4
theorem set_mid{A R:List α}{a v:α}(h:A.length=k):(A++a::R).set k v=A++v::R:=by subst h;simp
theorem get_mid{A R:List α}{a:α}(h:A.length=k):(A++a::R)[k]? =some a:=by subst h;simp
theorem bNodes(s:Pm.Store)(hg:Pl.Good s)(htx:0<=s.2.2.1)(t:Pl.Tree):Pure A1 41 [.pd (rSt s),dTree t] (.tup [tNds (if Pl.QaI s t then Pl.Qaa s t else []),dB (Pl.QaI s t)]):=by
 have c1:=bLeaves s hg htx t;have hd:AZ (Pl.QaI s t=(Pl.Qai s t&&(Pl.Qaa s t).all fun x=>(x==[])||((Pl.ng x).2&&Pl.Qai s (Pl.ng x).1.tree))):=Pm.hid rfl;have hlv:AZ (∀t,Pl.Qai s t=(Pl.Qao s t).2):=Pm.hid fun t=>by unfold Pl.Qao;split<;>simp_all
 cases ht:Pl.Qai s t
 ·have e:Pl.Qao s t=([],false):=by unfold Pl.Qao;rw[if_neg (by rw[ht];simp)]
  rw[e] at c1;have hno:Pl.QaI s t=false:=by rw[hd.out,ht];rfl
  rw[hno];refine kE ?_;refine QbP 0 (h:=?_)
  repeat refine kA ?_
  refine QcP 4 true 1 (h:=?_);exact QbQ (hx:=rfl)
 have e2:(Pl.Qao s t).2=true:=by rw[<-hlv.out,ht]
 have hlen:=QdU ht;have hho:=Pm.hid (Qee ht);have htx2:=Pm.hid (QeJ ht);rw[ht,Ap] at hd;rw[e2] at c1;rw[<-hlen.1] at hlen;generalize (Pl.Qao s t).1=l at*;have hl16:l.length<=16:=hlen.2
 have hNo:AZ (∀(k:Nat) p,l[k]? =some p->(((Pl.rd s.1 p).1==[])||((Pl.ng (Pl.rd s.1 p).1).2&&Pl.Qai s (Pl.ng (Pl.rd s.1 p).1).1.tree))=false->Pl.QaI s t=false):=Pm.hid fun k p hk h=>by
  rw[hd.out,<-htx2.out,BH];exact QlG hk h
 have hYes:AZ (l.all (fun p=>((Pl.rd s.1 p).1==[])||((Pl.ng (Pl.rd s.1 p).1).2&&Pl.Qai s (Pl.ng (Pl.rd s.1 p).1).1.tree))=true->Pl.QaI s t=true/\(Pl.Qaa s t).map (fun x=>[Pl.ndD x])=l.map (fun p=>[Pl.ndD (Pl.rd s.1 p).1])):=Pm.hid fun h=>by
  rw[hd.out,<-htx2.out,BH,List.map_map];exact⟨h,rfl⟩
 clear hd htx2 hlen e2 ht;generalize hres:Pl.QaI s t=res at*;generalize hrt:Pl.Qaa s t=txs at*;clear hres hrt;refine kE ?_;refine QbP 0 (h:=?_)
 repeat' first|refine kS ?_|refine stepS2 (Qhx Ty.h rfl Ty.h rfl rfl rfl (by simp;omega) (by omega)) (k:=?_)|refine kU ?_|fail
 refine QbS (fun m st=> ∃(k:Nat) (rows:List (List D)),k<=l.length/\m=l.length -k/\rows.length=l.length/\AZ (rows=(l.take k).map (fun p=>[Pl.ndD (Pl.rd s.1 p).1])++A3 (l.length -k) [D.v (.pointer none)])/\
  AZ ((l.take k).all (fun p=>((Pl.rd s.1 p).1==[])||((Pl.ng (Pl.rd s.1 p).1).2&&Pl.Qai s (Pl.ng (Pl.rd s.1 p).1).1.tree))=true)/\
  st=⟨64,[(0,.d (.pd (rSt s))),(28,.d (tPtrs l)),(29,.d (dI l.length)),(30,.d (dI k)),(8,.osl 1 0 0 l.length)],[.row 1 [],.arr 0 1 90 rows]⟩) [0,28,29,30,8] 2 l.length
  ⟨0,A3 l.length [D.v (.pointer none)],by omega,rfl,by simp,Pm.hid (by simp),Pm.hid rfl,by simp[keepE,go_sem]⟩ (round:=?_)
 rintro m st ⟨k,rows,hk,rfl,hlen,hR,hA,rfl⟩
 repeat refine kG ?_
 cases q4:decide ((k:Int)<(l.length:Int))
 ·repeat refine kA ?_
  refine QbP 1 (h:=?_);refine QbQ (hx:=?_);have:k=l.length:=by simp at q4;omega
  subst this;rw[Ad] at hA hR;obtain⟨r1,r2⟩:=hYes.out hA.out;rw[r1,if_pos rfl];show _=D.tup [D.sl true 1 (txs.map fun x=>[Pl.ndD x]),_];rw[r2,<-hlen,Ad,hR.out];simp
 have hk2:k<l.length:=by simp at q4;omega
 obtain⟨x,hx⟩: ∃x,l[k]? =some x:=⟨_,A2 hk2⟩;have hr:=QbV (f:=rPtr) hx;obtain⟨ho1,ho2⟩:=hho.out x (A4 hx);have c2:=Qde x;have c3:=bRead s hg x fun _=>ho1
 have c4:=Qtp (Pl.rd s.1 x).1 (by have:=QhI s hg x;unfold Pm.big;omega);have c5:=bLeaves s hg htx (Pl.ng (Pl.rd s.1 x).1).1.tree;have hlt:=hlv.out (Pl.ng (Pl.rd s.1 x).1).1.tree;have hBad:=Pm.hid (hNo.out k x hx);have hGood:AZ ((((Pl.rd s.1 x).1==[])||((Pl.ng (Pl.rd s.1 x).1).2&&Pl.Qai s (Pl.ng (Pl.rd s.1 x).1).1.tree))=true->(l.take (k+1)).all (fun p=>((Pl.rd s.1 p).1==[])||((Pl.ng (Pl.rd s.1 p).1).2&&Pl.Qai s (Pl.ng (Pl.rd s.1 p).1).1.tree))=true):=Pm.hid fun h=>Qk2 hx hA.out h
 have hstep:AZ (rows.set k [Pl.ndD (Pl.rd s.1 x).1]=(l.take (k+1)).map (fun p=>[Pl.ndD (Pl.rd s.1 p).1])++A3 (l.length -(k+1)) [D.v (.pointer none)]):=Pm.hid (by
  have e1:l.length -k=(l.length -(k+1))+1:=by omega
  rw[hR.out,e1,Ak,set_mid (by rw[AN,Ac,BC hk]),AU,hx,List.map_append,A9];rfl)
 have hrow:rows[k]? =some [D.v (.pointer none)]:=by
  have e1:l.length -k=(l.length -(k+1))+1:=by omega
  rw[hR.out,e1,Ak,get_mid (by rw[AN,Ac,BC hk])]
 have hsame:rows.set k [D.v (.pointer none)]=rows:=by
  apply List.ext_getElem?;intro j
  by_cases hj:k=j
  ·subst hj;rw[List.getElem?_set_self (by omega),hrow]
  ·rw[List.getElem?_set_ne hj]
 have hnd:AZ (Pl.ndD (Pl.rd s.1 x).1=if(Pl.rd s.1 x).1=[] then D.v (.pointer none) else .pd (rNode (Pl.ng (Pl.rd s.1 x).1).1)):=Pm.hid rfl;have hrow2:rows[0+((k:Nat):Int).toNat]? =some [D.v (.pointer none)]:=by simpa using hrow
 clear hx hho hA hYes hNo hlv hR;cases hh:Pl.ptrHole x;rotate_left
 ·have ht:=ho2.2 hh
  rw[hh] at c2
  repeat' first|refine kS ?_|refine qS (iy hr) ?_|refine kU ?_|fail
  refine QbR (l.length -(k+1)) (by omega) ⟨k+1,rows,by omega,rfl,hlen,Pm.hid ?_,Pm.hid (hGood.out (by rw[ht];rfl)),by simp[keepE,go_sem]⟩;rw[<-hstep.out,hnd.out,if_pos ht,hsame]
 rw[hh] at c2;have ht:(Pl.rd s.1 x).1≠[]:=fun e=>by rw[ho2.1 e] at hh;cases hh
 rw[if_neg ht] at hnd;have hne:((Pl.rd s.1 x).1==[])=false:=by simpa using ht
 rw[hne,BE] at hBad hGood;clear ho1 ho2 hh hsame hne;generalize Pl.rd s.1 x=rb at*;obtain⟨tx,fine⟩:=rb;simp only at*;generalize Pl.Qao s (Pl.ng tx).1.tree=lp at*;obtain⟨lp1,lp2⟩:=lp;simp only at hlt c5;rw[hlt] at hBad hGood;generalize Pl.ndD tx=ndx at*;generalize Pl.ng tx=nn at*;obtain⟨⟨kind,links,size,⟨⟨p1,p2,p3,p4,p5⟩,depth,many⟩⟩,nok⟩:=nn;simp only at*
 repeat' first|refine kS ?_|refine qS (iy hr) ?_|refine(Qi8 Ty.h rfl rfl hrow2 rfl (kk:=?_))|(show ASeq _ _ _ (⟨none,.store _ (.tmp 61) _,_,_,_,_⟩::_) _;refine Qdl 3 (C:= .row 0 _) (h:=?_))|refine kU ?_|refine kV ?_ ?_<;>intro q|fail
 ·refine QcP 4 true 1 (h:=?_)
  refine QbQ (hx:=?_);rw[hBad.out (by simp_all)];rfl
 ·refine QcP 4 true 1 (h:=?_)
  refine QbQ (hx:=?_);rw[hBad.out (by simp_all)];rfl
 ·refine QbR (l.length -(k+1)) (by omega) ⟨k+1,rows.set k [ndx],by omega,rfl,by simpa using hlen,hstep,Pm.hid (hGood.out (by simp_all)),?_⟩
  rw[hnd.out];simp[keepE,go_sem]
def Qhb: ∀c:Nat,BK [0] c=A3 c 0
 |0=>rfl
 |c+1=>by rw[BK,Qhb c];rfl
def Qtl(c:Nat)(hc:c<=1000):Pure A1 201 [dS [0],dI c] (dS (A3 c 0)):=
 Qc4 (x:= .string ⟨(A3 c 0).toArray⟩) rfl fun w _=>(Tryz.strings_Repeat ⟨#[0]⟩ c w (by omega) (by show 1*c<=_;omega)).mono fun e w' h=>⟨by rw[<-Qhb];exact h.1,h.2⟩
def QlV(s:List UInt8):([0]:List UInt8).isSuffixOf s= !(Pl.cut0 s==s):=by
 rw[Au,List.isSuffixOf_iff_suffix];have:=Qry s;rcases List.eq_nil_or_concat s with rfl|⟨l,c,rfl⟩
 ·simp[QnN]
 ·rw[List.concat_eq_append] at*
  have h1:([0]:List UInt8)<:+l++[c]↔c=0:=by
   constructor
   ·rintro⟨t,ht⟩
    have:=List.append_inj' ht rfl;have:=this.2;simp at this;exact this.symm
   ·rintro rfl;exact⟨l,rfl⟩
  rw[h1];simp only[List.getLast?_append,List.getLast?_singleton,Option.some_or,ne_eq,B5] at this
  by_cases hc:c=0
  ·simp[hc] at this⊢;exact this
  ·simp[hc] at this⊢;exact this
def Pl.Qb5(size:Int)(k:Int):Int:=if 0<(if size -k*12<12 then size -k*12 else 12) then(if size -k*12<12 then size -k*12 else 12) else 0
def Qph(size:Int)(k:Nat)(h0:0<=size)(h1:size<=2048)(hk:k<=100):Pure A1 168 [dI size,dI k] (dI (Pl.Qb5 size k)):=by
 refine kB ?_
 repeat' first|refine kS ?_|refine qS (Qc3 rfl rfl (by omega)) ?_|refine qS (Qml rfl rfl) ?_|refine qS (Qmm rfl rfl) ?_|refine kU ?_|fail
 exact QbQ (hx:=by unfold Pl.Qb5;rfl)
def Qo4{size:Int}(h:(k:Int)*12<size):Pl.Qb5 size k=Pl.long size k:=by
 unfold Pl.Qb5 Pl.long;split<;>split<;>omega
def Pl.fill(s:List UInt8)(n:Int):List UInt8×Bool:=if Pl.inR n 0 12&&decide ((s.length:Int)<=n) then(s++A3 (n -s.length).toNat 0,true) else([],false)
def Qpi(s:List UInt8)(n:Int)(hs:s.length<=1000000):Pure A1 167 [dS s,dI n] (.tup [dS (Pl.fill s n).1,dB (Pl.fill s n).2]):=by
 have hd:=Pm.hid (Pl.fill.eq_def s n);generalize Pl.fill s n=res at*;have c1:=bIn n 0 12;cases hi:Pl.inR n 0 12
 ·rw[hi] at c1 hd
  refine kB ?_
  repeat refine kA ?_
  refine QbQ (hx:=?_);rw[hd.out];rfl
 rw[hi] at c1 hd;have hb:0<=n/\n<=12:=by simpa[Pl.inR] using hi
 by_cases hle:(s.length:Int)<=n
 rotate_left
 ·refine kB ?_
  repeat' first|refine kA ?_|refine kV ?_ ?_<;>intro q|fail
  all_goals first|refine QbQ (hx:=?_);rw[hd.out,decide_eq_false hle];rfl|exfalso;simp at*;omega
 have c2:=Qtl (n -s.length).toNat (by omega);have e2:(((n -s.length).toNat:Nat):Int)=n -s.length:=by omega
 rw[e2] at c2;refine kB ?_
 repeat' first|refine kS ?_|refine qS (Qcc rfl rfl (by simp;omega)) ?_|refine kU ?_|refine kV ?_ ?_<;>intro q|fail
 all_goals first|refine QbQ (hx:=?_);rw[hd.out,decide_eq_true hle];rfl|exfalso;simp at*;omega
def Pl.Qa8(x:Nat):Bool:=decide ((x:Int)<97)||decide ((x:Int)>122)
def QsN(x:Nat)(w:World):Calls A1 229 #[.int .i32 x] w fun e w'=>e= .returned (.bool (Pl.Qa8 x))/\w=w':=by
 by_cases h1:(x:Int)<97
 ·have hf:=Pm.hid (show Pl.Qa8 x=true by simp[Pl.Qa8,h1])
  go_enter B6,B0
  go_wp2
  go_ret
  exact⟨Pm.Qc1 hf.out.symm,rfl⟩
 ·by_cases h2:(x:Int)>122
  ·have hf:=Pm.hid (show Pl.Qa8 x=true by simp only[Pl.Qa8,decide_eq_true h2,B7])
   have h3:(122:Int)<x:=h2
   go_enter B6,B0
   go_wp2
   go_ret
   exact⟨Pm.Qc1 (by rw[hf.out]),rfl⟩
  ·have hf:=Pm.hid (show Pl.Qa8 x=false by simp only[Pl.Qa8,decide_eq_false h1,decide_eq_false h2,Bool.or_false])
   have h3: ¬(122:Int)<x:=h2
   go_enter B6,B0
   go_wp2
   go_ret
   exact⟨Pm.Qc1 hf.out.symm,rfl⟩
theorem Qik(s:ByteArray): ∀(f pos:Nat),s.size<=pos+f->(Av Pl.Qa8 true s f pos<0↔ ∀i (h:i<s.size),pos<=i->Pl.Qbb s[i]=true)
 |0,pos,hf=>by
  unfold Av;exact⟨fun _ i h hp=>by omega,fun _=>by decide⟩
 |f+1,pos,hf=>by
  unfold Av;split
  ·rename_i hlt
   by_cases ha:(s[pos]'hlt).toNat<128
   ·rw[decode_ascii s pos hlt ha]
    by_cases hl:Pl.Qbb (s[pos]'hlt)=true
    ·have hb:Pl.Qa8 (s[pos]'hlt).toNat=false:=by
      unfold Pl.Qbb at hl;simp only[AK,decide_eq_true_eq] at hl;unfold Pl.Qa8;rw[decide_eq_false (by omega),decide_eq_false (by omega)];rfl
     simp only[hb,AO,if_false];rw[Qik s f (pos+1) (by omega)];constructor
     ·intro h i hi hp
      rcases Nat.eq_or_lt_of_le hp with e|e
      ·subst e;exact hl
      ·exact h i hi e
     ·intro h i hi hp;exact h i hi (by omega)
    ·have hb:Pl.Qa8 (s[pos]'hlt).toNat=true:=by
      unfold Pl.Qbb at hl;unfold Pl.Qa8;simp only[AK,decide_eq_true_eq] at hl
      by_cases h:(((s[pos]'hlt).toNat:Nat):Int)<97
      ·rw[decide_eq_true h];rfl
      ·rw[decide_eq_true (p:=((s[pos]'hlt).toNat:Int)>122) (by omega),B7]
     simp only[hb,if_true];exact⟨fun h=>by omega,fun h=>absurd (h pos hlt (AQ _)) hl⟩
   ·have hd:=decode_high s pos hlt (by omega)
    have hb:Pl.Qa8 (BL s pos).1=true:=by
     unfold Pl.Qa8;rw[decide_eq_true (p:=((BL s pos).1:Int)>122) (by omega),B7]
    simp only[hb,if_true];refine⟨fun h=>by omega,fun h=>?_⟩;have:=h pos hlt (AQ _);unfold Pl.Qbb at this;simp only[AK,decide_eq_true_eq] at this;omega
  ·exact⟨fun _ i h hp=>by omega,fun _=>by decide⟩
def Qkj(s:List UInt8)(hs:s.length<=1000000):PureF A1 228 [.d (dS s),.fn (.func 229) []] (dI (Ay Pl.Qa8 true ⟨s.toArray⟩)):=by
 intro B S w cargs hB hS hl hr
 match cargs,hl with
 |[a,b],_=>
  have h0:=hr 0 _ a rfl rfl;have h1:=hr 1 _ b rfl rfl;cases h0 with
  |d _ _ h0=>
   cases h0;cases h1 with
   |fn _ _ cs hl1 _=>
    obtain rfl:cs=[]:=AR.1 hl1.symm;refine(Tryz.strings_IndexFunc_runes 229 #[] Tryz.call229 Pl.Qa8 ⟨s.toArray⟩ w (fun W x _ _=>?_)).mono fun e w' h=>⟨_,h.1,h.2,.v _⟩
    exact(QsN x W).mono fun e w' h=>⟨h.1,0,by rw[<-h.2];rfl⟩
def QoC(s:List UInt8):(decide (Ay Pl.Qa8 true ⟨s.toArray⟩<0))=s.all Pl.Qbb:=by
 rw[Au,decide_eq_true_eq];unfold Ay;rw[Qik _ _ 0 (by omega),BB];constructor
 ·intro h x hx
  obtain⟨i,hi,rfl⟩:=List.getElem_of_mem hx;exact h i hi (Nat.zero_le _)
 ·intro h i hi _
  exact h _ (List.getElem_mem (show i<s.length from hi))
theorem bNameOk(s:List UInt8)(hs:s.length<=1000000):Pure A1 206 [dS s] (dB (Pl.Qas s)):=by
 have hd:AZ (Pl.Qas s=(s.all Pl.Qbb&&Pl.inR s.length 1 4)):=Pm.hid (QkU s);have c1:=bIn s.length 1 4;have c2:=Qkj s hs;rw[<-QoC] at hd;generalize Ay Pl.Qa8 true ⟨s.toArray⟩=ix at*;generalize Pl.inR s.length 1 4=o at*;refine kB ?_
 repeat' first|refine kS ?_|refine qS (QcY cK c2 rfl rfl) ?_|refine kU ?_|refine kV ?_ ?_<;>intro q|fail
 all_goals
  refine QbQ (hx:=?_);rw[hd.out]
  simp_all
theorem Qpq(l:List Pl.Ent)(hl:l.length<=Pm.big)(hs: ∀e∈l,e.1.length<=1000000):Pure A1 174 [dEnts l] (dB (Pl.Qam l)):=by
 simp only[Pm.big] at hl;have hd:AZ (Pl.Qam l=((A5 l.length).all (Pl.QaY l)&&decide (l.length<=12))):=Pm.hid rfl;refine kB ?_
 repeat refine kA ?_
 refine QbS (fun m st=> ∃k:Nat,k<=l.length/\m=l.length -k/\AZ ((A5 k).all (Pl.QaY l)=true)/\st=⟨41,[(5,.d (dEnts l)),(6,.d (dI l.length)),(7,.d (dI k)),(0,.d (dEnts l))],[]⟩) [5,6,7,0] 0 l.length ⟨0,by omega,rfl,Pm.hid rfl,by simp[keepE,go_sem]⟩ (round:=?_);rintro m st ⟨k,hk,rfl,hA,rfl⟩
 repeat refine kG ?_
 cases q3:decide ((k:Int)<(l.length:Int))
 ·repeat refine kA ?_
  refine QbQ (hx:=?_);have:k=l.length:=by simp at q3;omega
  have h:=hA.out;rw[this] at h;rw[hd.out,h];refine congrArg dB ?_;simp;omega
 have hk2:k<l.length:=by simp at q3;omega
 obtain⟨x,hx⟩: ∃x,l[k]? =some x:=⟨_,A2 hk2⟩;have hr:=QbV (f:=rEnt) hx;obtain⟨y,hy⟩: ∃y,l[k -1]? =some y:=⟨_,A2 (by omega)⟩
 have hr2:AZ (0<k->(l.map rEnt)[((k:Int) -1).toNat]? =some (rEnt y)):=fun h=>by
  rw[show((k:Int) -1).toNat=k -1 by omega,AW,hy];rfl
 have he:AZ (Pl.QaY l k=(Pl.Qas x.1&&Pl.inR x.2 1 15&&(decide (k=0)||Op.bytesLess y.1 x.1))):=Pm.hid (by
  unfold Pl.QaY;simp only[A0,hx,hy,Ab])
 have T:AZ (Pl.QaY l k=true->(A5 (k+1)).all (Pl.QaY l)=true):=fun h=>Pl.Qcm (p:=Pl.QaY l) hA.out h
 have F:AZ (Pl.QaY l k=false->Pl.Qam l=false):=fun h=>by
  rw[hd.out,Pl.Qcg (p:=Pl.QaY l) hk2 h];rfl
 have c1:=bNameOk x.1 (hs x (A4 hx));have c2:=bIn x.2 1 15;rw[he.out] at T F;clear hx hy hA hd he;generalize Pl.Qas x.1=o1 at*;generalize Pl.inR x.2 1 15=o2 at*
 repeat' first|refine kS ?_|refine qS (iy hr) ?_|refine qD (QbW Ty.h rfl Ty.h rfl rfl rfl (by simp only[decide_eq_true_eq] at*;omega) (hr2.out (by simp only[decide_eq_true_eq] at*;omega))) ?_|refine qD (QiZ rfl rfl) ?_|refine kU ?_|refine kV ?_ ?_<;>intro q|fail
 all_goals clear c1 c2 hr hr2
 all_goals simp only[decide_eq_true_eq,decide_eq_false_iff_not] at*
 all_goals first|refine QbR (l.length -(k+1)) (by omega) ⟨k+1,by omega,rfl,Pm.hid (T.out ?_),by simp[keepE,go_sem]⟩;clear T F;simp_all;try omega|refine QbQ (hx:=?_);rw[F.out ?_];clear T F;simp_all;try omega
def bCut(c:UInt8)(s:List UInt8)(hs:s.length<=4294967280):Pure A1 172 [dS s,dS [c]] (.tup [dS (AH s [c]).1,dS (AH s [c]).2.1,dB (AH s [c]).2.2]):=
 Qer (xs:=[.string ⟨(AH s [c]).1.toArray⟩,.string ⟨(AH s [c]).2.1.toArray⟩,.bool (AH s [c]).2.2]) rfl fun w hL=>by
  obtain⟨m,hm⟩:=hL.maxl;refine(Tryz.strings_Cut ⟨s.toArray⟩ ⟨#[c]⟩ m w (by rw[Pm.Qi4];omega) hm).mono fun e w' ⟨he,n,hw⟩=>⟨?_,hw▸Pm.QfZ w n⟩
  rw[he]
def Pl.entE(e:Pl.Ent):Prop:=(59:UInt8)∉e.1/\(61:UInt8)∉e.1/\0<=e.2/\e.2<1000000000
def Qrc{e:Pl.Ent}(h:Pl.entE e):Pl.QaK (Pl.QaD e)=some e:=by
 obtain⟨h0,h1,h2,h3⟩:=h;unfold Pl.QaK Pl.QaD;rw[Pl.QcB 61 _ _ h1,Pl.Qd8 61 _ (Qgx _ (by decide))];simp only[Pl.Qcy (show e.2.toNat<1000000000 by omega),Ab];obtain⟨a,b⟩:=e;simp only[B5,Prod.mk.injEq,true_and] at*;omega
def Qgt(rest:List UInt8): ∀{l:List Pl.Ent},(∀e∈l,Pl.entE e)->Pl.cutB 59 (Pl.Qah l++rest)=l.map Pl.QaD++Pl.cutB 59 rest
 |[],_=>rfl
 |e::l,h=>by
  have h1:Pl.Qah (e::l)++rest=Pl.QaD e++59::(Pl.Qah l++rest):=by simp[Pl.Qah]
  have hn:(59:UInt8)∉Pl.QaD e:=by
   unfold Pl.QaD;intro hm;rcases Ai.1 hm with hm|hm
   ·exact(h e AP).1 hm
   ·rcases Ao.1 hm with hm|hm
    ·exact absurd hm (by decide)
    ·exact Qgx _ (by decide) hm
  rw[h1,Pl.QcB 59 _ _ hn,Qgt rest fun x hx=>h x (AJ _ hx)];rfl
def eg_end{s:List UInt8}(hE: ∀e∈out,Pl.entE e)(hs:s=Pl.Qah out):Pl.eg s=if Pl.Qam out=true then(out,true) else([],false):=by
 have hc:=Qgt [] hE;rw[Ag,<-hs] at hc
 rw[Qrg (m:=out) (by rw[hc];simp[Pl.cutB]) fun i e he=>⟨Pl.QaD e,by
  rw[hc,Am (by simpa using(AL.1 he).1),AW,he];rfl,Qrc (hE e (A4 he))⟩]
 simp[hs]
def eg_pre{s one tail:List UInt8}{p:List Pl.Ent}(hE: ∀e∈out,Pl.entE e)(hs:s=Pl.Qah out++(one++59::tail))(hn:(59:UInt8)∉one)(h:Pl.Qbp s p): ∃e,p[out.length]? =some e/\one=Pl.QaD e:=by
 have hc:=Qgt (one++59::tail) hE;rw[<-hs,<-h.2,Qhz (ent_b h.1),Pl.QcB 59 _ _ hn] at hc;have hl:=congrArg List.length hc;have hne:=AM.2 (Pl.Qfr 59 tail);simp only[A6,AN,A8,Af] at hl;have hi:=congrArg (fun l=>l[out.length]?) hc;rw[Am (by simp;omega),List.getElem?_append_right (by simp),AW] at hi;simp only[AN,Nat.sub_self,List.getElem?_cons_zero] at hi;cases hp:p[out.length]? with
 |none=>rw[hp] at hi;cases hi
 |some e=>rw[hp] at hi;exact⟨e,rfl,(BO hi).symm⟩
def eg_cut0{s:List UInt8}(hE: ∀e∈out,Pl.entE e)(hs:s=Pl.Qah out++rest)(hr:rest≠[])(h:(59:UInt8)∉rest):Pl.eg s=([],false):=by
 refine QnD fun p hp=>hr ?_
 have hc:=Qgt rest hE;rw[<-hs,<-hp.2,Qhz (ent_b hp.1),Pl.Qd8 59 _ h] at hc;have:=congrArg List.getLast? hc;simpa using this.symm
structure EgStep(s rest:List UInt8)(out:List Pl.Ent)(w v:List UInt8×List UInt8×Bool)(g:Option Nat):Prop where
 bad:(w.2.2&&v.2.2&&g.isSome&&decide (out.length≠12))=false->Pl.eg s=([],false)
 good:(w.2.2&&v.2.2&&g.isSome)=true->s=Pl.Qah (out++[(v.1,((g.getD 0:Nat):Int))])++w.2.1/\Pl.entE (v.1,((g.getD 0:Nat):Int))/\w.2.1.length<rest.length
 l1:w.1.length<=rest.length
 l2:w.2.1.length<=rest.length
 l3:v.1.length<=rest.length
 l4:v.2.1.length<=rest.length
def eg_next{s:List UInt8}(hE: ∀e∈out,Pl.entE e)(hs:s=Pl.Qah out++rest)(hr:rest≠[]):
 EgStep s rest out (AH rest [59]) (AH (AH rest [59]).1 [61]) (Pl.numGet (AH (AH rest [59]).1 [61]).2.1):=by
 have hlen: ∀(c:UInt8) (x:List UInt8),(AH x [c]).1.length<=x.length/\(AH x [c]).2.1.length<=x.length:=fun c x=>by
  by_cases h:c∈x
  ·obtain⟨a,r,rfl,hn⟩:=Pl.QdQ h
   rw[Pl.QgN hn];simp;omega
  ·rw[Pl.Qh1 h];simp
 have g1:=hlen 59 rest;have g2:=hlen 61 (AH rest [59]).1;refine⟨?_,?_,g1.1,g1.2,by omega,by omega⟩
 ·intro hb
  by_cases h:(59:UInt8)∈rest
  ·obtain⟨one,tail,rfl,hn⟩:=Pl.QdQ h
   rw[Pl.QgN hn] at hb;refine QnD fun p hp=>?_
   obtain⟨e,he,rfl⟩:=eg_pre hE hs hn hp;have hb2:=ent_b hp.1 e (A4 he);have hle:out.length<p.length:=(AL.1 he).1;have h12:p.length<=12:=by have:=hp.1;unfold Pl.Qam at this;rw[AK,decide_eq_true_eq] at this;exact this.2
   simp only at hb;rw[show Pl.QaD e=e.1++61::Pl.dec e.2.toNat from rfl,Pl.QgN (Qf6 hb2.1 (by decide))] at hb;simp only[Pl.Qcy (show e.2.toNat<1000000000 by omega),Option.isSome_some,Ap,decide_eq_false_iff_not] at hb;omega
  ·exact eg_cut0 hE hs hr h
 ·intro hb
  by_cases h:(59:UInt8)∈rest
  ·obtain⟨one,tail,rfl,hn⟩:=Pl.QdQ h
   rw[Pl.QgN hn] at hb⊢;simp only at hb⊢
   by_cases h6:(61:UInt8)∈one
   ·obtain⟨a,b,rfl,hm⟩:=Pl.QdQ h6
    rw[Pl.QgN hm] at hb⊢;simp only[Ap] at hb⊢;obtain⟨n,hg⟩:=Option.isSome_iff_exists.1 hb;obtain⟨rfl,hlt⟩:=Pl.Qc8 hg;rw[hg];refine⟨?_,⟨fun hc=>hn (AE _ hc),hm,by simp,by simp;omega⟩,?_⟩
    ·rw[hs];simp[Pl.Qah,Pl.QaD]
    ·simp;omega
   ·rw[Pl.Qh1 h6] at hb;simp at hb
  ·rw[Pl.Qh1 h] at hb;simp at hb
theorem QmP(s:List UInt8)(hs:s.length<=1000000):Pure A1 117 [dS s] (.tup [tEnts (Pl.eg s).1,dB (Pl.eg s).2]):=by
 refine kB ?_
 repeat refine kA ?_
 refine Qfw 4 2 129 (h:=?_)
 skip
 refine QbS (fun m st=> ∃(g:Nat) (out:List Pl.Ent) (rest:List UInt8),m=rest.length/\AZ (s=Pl.Qah out++rest)/\AZ (∀e∈out,Pl.entE e)/\rest.length<=1000000/\out.length<=12/\AZ (∀e∈out,e.1.length<=1000000)/\
  st=⟨61,[(4,.osl 0 g 0 out.length),(5,.d (dS rest))],[.arr g 2 129 (out.map rEnt)]⟩) [4,5] 1 s.length ⟨0,[],s,rfl,Pm.hid rfl,Pm.hid (by simp),hs,by simp,Pm.hid (by simp),rfl⟩ (round:=?_)
 rintro m st ⟨g,out,rest,rfl,hO,hE,hrl,hlen,hnl,rfl⟩
 repeat refine kG ?_
 by_cases hr:rest=[]
 ·subst hr
  have hg:=Pm.hid (eg_end (s:=s) hE.out (by rw[hO.out,Ag]));have ce:=(Qpq out (by unfold Pm.big;omega) hnl.out).arg (l:=[tEnts out]);generalize Pl.eg s=res at*;generalize Pl.Qam out=o1 at*
  repeat refine kA ?_
  refine Qdl 0 (h:=?_)
  repeat' first|refine kA ?_|refine kV ?_ ?_<;>intro q|fail
  ·refine QcP 2 true 2 (h:=?_)
   refine QbQ (hx:=?_);rw[hg.out];simp_all
  ·refine QbQ (hx:=?_)
   rw[hg.out];simp_all
 have hne:(!(rest==([]:List UInt8)))=true:=by simpa using hr
 have st:=eg_next hE.out hO.out hr;have c1:=bCut 59 rest (by omega);generalize AH rest [59]=w at*;obtain⟨one,tail,ok⟩:=w;have z1:one.length<=rest.length:=st.l1;have c2:=bCut 61 one (by omega);simp only at st;generalize AH one [61]=v at*;obtain⟨name,num,fine⟩:=v;have z2:name.length<=rest.length:=st.l3;have z3:num.length<=rest.length:=st.l4;have z4:tail.length<=rest.length:=st.l2;have c3:=bNumGet num (by unfold Pm.big;omega);have c4:=bClone name (by unfold Pm.big;omega);have F:=Pm.hid st.bad;have T:=Pm.hid st.good;clear st;simp only at F T c1 c2;generalize Pl.numGet num=gg at*;generalize gg.isSome=good at*;generalize hnv:gg.getD 0=nv at*
 have hq:((out.length:Int)==12)=decide (out.length=12):=by
  rw[Au];simp;omega
 generalize Pl.eg s=res at*
 repeat' first|refine kS ?_|refine Qci Ty.h rfl Ty.h (hb:=?_) (kk:=?_)|refine kU ?_|refine kV ?_ ?_<;>intro q|fail
 all_goals first
  |exact absurd (hne.symm.trans ‹_=false›) (by decide)
  |(refine QcP 2 true 2 (h:=?_)
    refine QbQ (hx:=?_)
    rw[F.out (by simp_all)];rfl)
  |(simp;omega)
  |(exfalso;simp_all;done)
  |(obtain⟨t1,t2,t3⟩:=T.out (by simp_all)
    have h12:out.length≠12:=fun e=>absurd (‹((out.length:Int)==12)=false›) (by rw[hq];simp[e])
    refine QbR tail.length t3 ⟨g+1,out++[(name,(nv:Int))],tail,rfl,Pm.hid t1,Pm.hid ?_,by omega,by simp only[A6,A8,Af];omega,Pm.hid ?_,?_⟩
    ·intro e he
     rcases Ai.1 he with h|h
     ·exact hE.out e h
     ·rw[AB.1 h];exact t2
    ·intro e he
     rcases Ai.1 he with h|h
     ·exact hnl.out e h
     ·rw[AB.1 h];show name.length<=1000000;omega
    ·simp[keepE,go_sem])
def Pl.idxS(l:List (List UInt8))(pr:List UInt8->Bool):Int:=match l.findIdx? pr with
 |some i=>(i:Int)
 |none=> -1
theorem QsO(l:List (List UInt8))(pr:List UInt8->Bool):decide (Pl.idxS l pr≥0)=l.any pr:=by
 unfold Pl.idxS
 grind
theorem Qpk(l:List (List UInt8))(hl:l.length<=1000000)(f:BN)(pr:List UInt8->Bool)(hf: ∀args w,(callFunc f args).run A1 w= .ok (.enter f args) w)(h: ∀p∈l,Pure A1 f [dS p] (dB (pr p))):
 PureF A1 234 [.d (tStrs l),.fn (.func f) []] (dI (Pl.idxS l pr)):=by
 refine kF ?_
 repeat refine kA ?_
 refine QbS (fun m st=> ∃k:Nat,k<=l.length/\m=l.length -k/\AZ (∀x∈l.take k,pr x=false)/\st=⟨19,[(8,.d (dI k)),(7,.d (dI l.length)),(0,.d (tStrs l)),(1,.fn (.func f) [])],[]⟩) [8,7,0,1] 0 l.length ⟨0,by omega,rfl,Pm.hid (by simp),by simp[keepE,go_sem]⟩ (round:=?_);rintro m st ⟨k,hk,rfl,hA,rfl⟩
 repeat refine kG ?_
 cases q3:decide ((k:Int)<(l.length:Int))
 ·repeat refine kA ?_
  refine Qch (hx:=?_);have:k=l.length:=by grind
  have h:=hA.out;rw[this,Ad] at h;have:l.findIdx? pr=none:=List.findIdx?_eq_none_iff.2 h;unfold Pl.idxS;rw[this]
 have hk2:k<l.length:=by grind
 obtain⟨x,hx⟩: ∃x,l[k]? =some x:=⟨_,A2 hk2⟩;have hr:=QbV (f:=fun s=>[dS s]) hx
 have T:AZ (pr x=false-> ∀y∈l.take (k+1),pr y=false):=Pm.hid fun h y hy=>by
  rw[AU,hx] at hy;rcases Ai.1 hy with hy|hy
  ·exact hA.out y hy
  grind
 have F:AZ (pr x=true->Pl.idxS l pr=k):=Pm.hid fun h=>by
  have:l.findIdx? pr=some k:=by
   rw[List.findIdx?_eq_some_iff_getElem];refine⟨hk2,?_,fun j hj=>?_⟩
   ·grind
   ·have:=hA.out l[j] (List.mem_iff_getElem?.2 ⟨j,by grind⟩)
    grind
  unfold Pl.idxS;rw[this]
 have c:=h x (A4 hx);clear hx hA;generalize pr x=b at*
 repeat' first|refine kS ?_|refine qS (iy hr) ?_|refine qS (Qd1 hf c rfl rfl) ?_|refine kU ?_|refine kV ?_ ?_<;>intro q|fail
 all_goals first|exact QbR (l.length -(k+1)) (by omega) ⟨k+1,by omega,rfl,Pm.hid (T.out (by assumption)),by simp[keepE,go_sem]⟩|refine Qch (hx:=?_);rw[F.out (by assumption)]
def Qkk(l:List (List UInt8))(hl:l.length<=1000000)(f:BN)(pr:List UInt8->Bool)(hf: ∀args w,(callFunc f args).run A1 w= .ok (.enter f args) w)(h: ∀p∈l,Pure A1 f [dS p] (dB (pr p))):
 PureF A1 209 [.d (tStrs l),.fn (.func f) []] (dB (l.any pr)):=by
 have c:=Qpk l hl f pr hf h;have hd:=Pm.hid (QsO l pr);generalize Pl.idxS l pr=i at*;refine kF ?_
 repeat' first|refine kS ?_|refine qS (QcY cK c rfl rfl) ?_|refine kU ?_|fail
 refine Qch (hx:=?_);rw[<-hd.out]
def Qtn(s:List UInt8)(hs:s.length<=1000000):Pure A1 210 [dS s] (dB (!Pl.Qas s)):=by
 have c:=bNameOk s hs;refine kB ?_
 repeat refine kA ?_
 exact QbQ (hx:=rfl)
def Pl.QbJ(l:List (List UInt8)):List UInt8:=47::Pl.Qa7 47 l
def Ql5(l:List (List UInt8))(hl:l.length<=1000000)(hs: ∀x∈l,x.length<=1000000):Pure A1 121 [tStrs l] (dS (Pl.QbJ l)):=by
 have hj:=Qif 47 l 1000000 hs
 have hjl:(Pl.Qa7 47 l).length<=140737488355328:=by
  omega
 have c:=bJoin l 47 (by omega) hjl;clear hj;unfold Pl.QbJ;generalize Pl.Qa7 47 l=j at*;refine kB ?_
 repeat' first|refine kS ?_|refine qS (Qcc (l:=[47]) rfl rfl (by simp;omega)) ?_|refine kU ?_|fail
 exact QbQ (hx:=rfl)
def Pl.Qbo(l:List (List UInt8)):List UInt8×Bool:=if decide (l.length<=4)&&l.all Pl.Qas then(Pl.QbJ l,true) else([],false)
theorem any_not(l:List (List UInt8)):(l.any fun s=> !Pl.Qas s)= !l.all Pl.Qas:=by
 grind
def bPathOf(l:List (List UInt8))(hl:l.length<=1000000)(hs: ∀x∈l,x.length<=1000000):Pure A1 177 [tStrs l] (.tup [dS (Pl.Qbo l).1,dB (Pl.Qbo l).2]):=by
 have c1:=Qkk l hl 210 (fun s=> !Pl.Qas s) Tryz.call210 fun p hp=>Qtn p (hs p hp)
 have c2:=Ql5 l hl hs;rw[any_not] at c1;have hd:=Pm.hid (Pl.Qbo.eq_def l);generalize Pl.Qbo l=res at*;generalize l.all Pl.Qas=o at*;generalize Pl.QbJ l=t at*;have g1:AZ (l.length<=4->o=true->res=(t,true)):=Pm.hid fun h1 h2=>by rw[hd.out,h2,decide_eq_true h1];rfl
 have g2:AZ (¬l.length<=4->res=([],false)):=Pm.hid fun h1=>by rw[hd.out,decide_eq_false h1];rfl
 have g3:AZ (o=false->res=([],false)):=Pm.hid fun h2=>by rw[hd.out,h2,Bool.and_false];rfl
 clear hd;refine kB ?_
 repeat' first|refine kS ?_|refine qS (QcY cK c1 rfl rfl) ?_|refine kU ?_|refine kV ?_ ?_<;>intro q|fail
 all_goals
  refine QbQ (hx:=?_);simp only[decide_eq_true_eq,decide_eq_false_iff_not,Bool.not_eq_true',B1] at*
  first|rw[g2.out (by omega)];done|rw[g2.out (by omega)];rfl|rw[g3.out (by assumption)];done|rw[g3.out (by assumption)];rfl|rw[g1.out (by omega) (by assumption)];done|rw[g1.out (by omega) (by assumption)];rfl
theorem Ql6(s:List UInt8)(hs:s.length<=1000000000000):Pure A1 230 [dS s,dS [47]] (dB (decide (s.head? =some 47))):=by
 cases s with
 |nil=>
  refine kB ?_
  repeat refine kA ?_
  exact QbQ (hx:=rfl)
 |cons c r=>
  have hd:AZ (decide ((c::r).head? =some 47)=((c::r).take 1==[47])):=Pm.hid (by grind);refine kB ?_
  repeat' first|refine kS ?_|refine qS (QdS rfl rfl rfl (by simp) (by grind)) ?_|refine qS (Qcp (m:=[47]) rfl rfl) ?_|refine kU ?_|refine kV ?_ ?_<;>intro q|fail
  all_goals first
   |(exfalso;simp at*;omega)
   |(refine QbQ (hx:=?_)
     rw[hd.out]
     simp_all)
theorem QmQ(s:List UInt8)(hs:s.length<=1000000000000):Pure A1 207 [dS s,dS [47]] (.tup [dS (if s.head? =some 47 then s.drop 1 else s),dB (decide (s.head? =some 47))]):=by
 have c:=Ql6 s hs;have h1:s.head? =some 47->1<=s.length:=fun h=>by grind
 by_cases h:s.head? =some 47
 ·have h1:=h1 h
  rw[decide_eq_true h] at*;rw[if_pos h];refine kB ?_
  repeat' first|refine kS ?_|refine qS (Qew rfl rfl rfl (by simp) (by simp;omega)) ?_|refine kU ?_|fail
  exact QbQ (hx:=rfl)
 ·rw[decide_eq_false h] at*
  rw[if_neg h];refine kB ?_
  repeat refine kA ?_
  exact QbQ (hx:=rfl)
def Qpr(s:List UInt8)(hs:s.length<=1000000000000):Pure A1 175 [dS s,dS [47]] (.tup [dS (if s.head? =some 47 then s.drop 1 else s),dB (decide (s.head? =some 47))]):=by
 have c:=QmQ s hs;generalize (if s.head? =some 47 then s.drop 1 else s)=r at*;refine kB ?_
 repeat refine kA ?_
 exact QbQ (hx:=rfl)
theorem QoL(b:UInt8)(l:List (List UInt8))(m:Nat)(h: ∀x∈l,x.length<=m)(hn:l≠[]):(Pl.Qa7 b l).length+1<=l.length*(m+1):=by
 induction l with
 |nil=>grind
 |cons a l ih=>
  have h1:=h a AP;cases l with
  |nil=>simp[Pl.Qa7];omega
  |cons c l=>
   have ih:=ih (fun x hx=>h x (AJ _ hx)) (by simp);have e:Pl.Qa7 b (a::c::l)=a++b::Pl.Qa7 b (c::l):=by simp[Pl.Qa7,List.intersperse]
   rw[e,A6,A8,A8,Nat.succ_mul];omega
theorem QkL{s:List UInt8}(h:20<s.length):Pl.Qae s=none:=by
 unfold Pl.Qae;rw[if_neg (by grind),if_neg];rintro⟨h1,h2,h3⟩;cases s with
 |nil=>cases h1
 |cons c r=>
  obtain rfl:c=47:=by grind
  rw[QdC,BD] at h2 h3
  have:=QoL 47 (Pl.cutB 47 r) 4 (fun x hx=>by
   have:=BB.1 h2 x hx;unfold Pl.Qas at this
   grind) (Pl.Qfr 47 r)
  rw[Qig] at this
  grind
theorem QjF(r:List UInt8):Pl.Qae (47::r)=if r=[] then some [] else if(Pl.Qbo (Pl.cutB 47 r)).2 then some (Pl.cutB 47 r) else none:=by
 unfold Pl.Qae Pl.Qbo;rw[QdC,BD]
 grind
theorem Qpj(s:List UInt8)(hs:s.length<=1000000000000):Pure A1 119 [dS s] (.tup [tStrs ((Pl.Qae s).getD []),dB (Pl.Qae s).isSome]):=by
 have c1:=Qpr s hs
 by_cases h47:s.head? =some 47
 rotate_left
 ·have hx:AZ (Pl.Qae s=none):=Pm.hid (by unfold Pl.Qae;grind)
  have hs47:(s==[47])=false:=by
   grind
  rw[decide_eq_false h47,if_neg h47] at c1;generalize Pl.Qae s=res at*;refine kB ?_
  repeat' first|refine kS ?_|refine qS (Qcp (m:=[47]) rfl rfl) ?_|refine kU ?_|refine kV ?_ ?_<;>intro q|fail
  all_goals first
   |(exfalso;simp_all;done)
   |(refine QcP 2 true 1 (h:=?_)
     refine QbQ (hx:=?_)
     first|(rw[hx.out];done)|(rw[hx.out];rfl))
 obtain⟨r,rfl⟩: ∃r,s=47::r:=by
  cases s with
  |nil=>cases h47
  |cons c r=>grind
 rw[decide_eq_true h47,if_pos h47] at c1;simp only[List.drop_succ_cons,List.drop_zero] at c1;have hd:=Pm.hid (QjF r)
 by_cases h20:(47::r).length<=20
 rotate_left
 ·have hx:=Pm.hid (QkL (s:=47::r) (by omega))
  have hne:r≠[]:=by grind
  generalize Pl.Qae (47::r)=res at*;clear hd;refine kB ?_
  repeat' first|refine kS ?_|refine qS (Qcp (m:=[47]) rfl rfl) ?_|refine kU ?_|refine kV ?_ ?_<;>intro q|fail
  all_goals first
   |(exfalso;simp_all;done)
   |(exfalso;simp at*;omega)
   |(refine QcP 2 true 1 (h:=?_)
     refine QbQ (hx:=?_)
     first|(rw[hx.out];done)|(rw[hx.out];rfl))
 have hrl:r.length<=19:=by grind
 have c2:=bSplit r 47 (by omega);have hcl:=Qds 47 r;have c3:=bPathOf (Pl.cutB 47 r) (by omega) (fun x hx=>by grind)
 have ht:AZ ((Pl.Qbo (Pl.cutB 47 r)).2=true->(Pl.Qbo (Pl.cutB 47 r)).1=47::r):=Pm.hid fun h=>by
  unfold Pl.Qbo at h⊢;split at h
  ·rename_i h2;rw[if_pos h2];show 47::Pl.Qa7 47 _=_;rw[Qig]
  ·cases h
 clear hcl;generalize Pl.Qae (47::r)=res at*;generalize Pl.cutB 47 r=l at*;generalize Pl.Qbo l=po at*;obtain⟨again,fine⟩:=po;simp only at ht hd c3;have hrs:((47::r)==[47])=decide (r=[]):=by grind
 cases fine
 all_goals
  refine kB ?_
  repeat' first|refine kS ?_|refine qS (Qcp (l:=47::r) (m:=[47]) rfl rfl) ?_|refine qS (QcD (m:=47::r) rfl rfl) ?_|refine kU ?_|refine kV ?_ ?_<;>intro q|fail
 all_goals first
  |(exfalso;simp at*;omega)
  |(refine QcP 2 true 1 (h:=?_)
    refine QbQ (hx:=?_)
    first
     |(exfalso;have h9:=ht.out rfl;clear ht;simp_all;done)
     |(have h9:=hd.out;grind)
     |(have h9:=hd.out;clear hd ht;simp_all;rfl))
  |(refine QbQ (hx:=?_)
    have h9:=hd.out
    grind)
def Pl.atN(l:List (List UInt8))(k:Int):Pl.Node×Bool:=if Pl.inR k 0 ((l.length:Int) -1)&& !(l.getD k.toNat []==[]) then((Pl.ng (l.getD k.toNat [])).1,true) else(Pl.zn,false)
def bNodeAt(l:List (List UInt8))(k:Int)(hl:l.length<=1000):Pure A1 114 [tNds l,dI k] (.tup [dNode (Pl.atN l k).1,dB (Pl.atN l k).2]):=by
 have hd:=Pm.hid (Pl.atN.eq_def l k);have c1:=bIn k 0 ((l.length:Int) -1);cases hi:Pl.inR k 0 ((l.length:Int) -1)
 ·rw[hi] at c1 hd
  refine kC ?_
  repeat refine kA ?_
  (refine QbP 0 (h:=?_);refine Qch (hx:=?_))
  rw[hd.out];rfl
 rw[hi] at c1 hd;have hb:0<=k/\k<=(l.length:Int) -1:=by simpa[Pl.inR] using hi
 obtain⟨j,rfl⟩:=Int.eq_ofNat_of_zero_le hb.1;obtain⟨x,hx⟩: ∃x,l[j]? =some x:=⟨_,A2 (by omega)⟩;have hr:=QbV (f:=fun x=>[Pl.ndD x]) hx;have hg:l.getD ((j:Nat):Int).toNat []=x:=by rw[An,A0,hx];rfl
 rw[hg] at hd
 by_cases hn:x=[]
 ·have e:Pl.ndD x= .v (.pointer none):=by unfold Pl.ndD;rw[if_pos hn]
  rw[e] at hr;refine kC ?_
  repeat' first|refine kS ?_|refine qS (iy hr) ?_|refine qS (Qia B8 rfl) ?_|refine kU ?_|fail
  all_goals
   (refine QbP 0 (h:=?_);refine Qch (hx:=?_))
   rw[hd.out,hn];rfl
 have e:Pl.ndD x= .pd (rNode (Pl.ng x).1):=by unfold Pl.ndD;rw[if_neg hn]
 rw[e] at hr;have hnb:(x==[])=false:=by simpa using hn
 rw[hnb] at hd;generalize (Pl.ng x).1=N at*;obtain⟨kind,links,size,⟨⟨p1,p2,p3,p4,p5⟩,depth,many⟩⟩:=N;refine kC ?_
 repeat' first|refine kS ?_|refine qS (iy hr) ?_|refine qS (Qfg B8 rfl) ?_|refine qS (Qcv rfl) ?_|refine kU ?_|fail
 all_goals
  (refine QbP 0 (h:=?_);refine Qch (hx:=?_))
  rw[hd.out];rfl
def Qr9{l:List (List UInt8)}(hx:l[k]? =some x)(h:(A5 k).all (Pl.QaH l)=true)(hb:Pl.QaH l k=true):(A5 (k+1)).all (Pl.QaH l)=true:=by
 rw[Ah,List.all_append,h];simpa using hb
def QqK{l:List (List UInt8)}(hx:l[k]? =some x):(l.take (k+1)).flatten=(l.take k).flatten++x:=by
 rw[AU,hx,List.flatten_append];simp
def QqL{m:Nat}: ∀{l:List (List UInt8)},(∀x∈l,x.length<=m)->l.flatten.length<=l.length*m
 |[],_=>by simp
 |x::l,h=>by
  have:=QqL fun y hy=>h y (AJ _ hy)
  have:=h x AP;rw[List.flatten_cons,A6,A8,Nat.add_mul];omega
def Pl.Qb0(s:Pm.Store)(n:Pl.Node):List UInt8×Bool:=if Pl.Qai s n.tree&&(Pl.blob (Pl.Qaa s n.tree)).2 then((Pl.blob (Pl.Qaa s n.tree)).1,decide (((Pl.blob (Pl.Qaa s n.tree)).1.length:Int)=n.size)) else([],false)
theorem QmO(s:Pm.Store)(hg:Pl.Good s)(htx:0<=s.2.2.1)(n:Pl.Node):Pure A1 116 [.pd (rSt s),dNode n] (.tup [dS (Pl.Qb0 s n).1,dB (Pl.Qb0 s n).2]):=by
 have c1:=bLeaves s hg htx n.tree;have hd:=Pm.hid (Pl.Qb0.eq_def s n);cases ht:Pl.Qai s n.tree
 ·have e:Pl.Qao s n.tree=([],false):=by unfold Pl.Qao;rw[if_neg (by rw[ht];simp)]
  rw[e] at c1;rw[ht] at hd;refine kE ?_;refine QbP 0 (h:=?_)
  repeat refine kA ?_
  refine QbQ (hx:=?_);rw[hd.out];rfl
 have e2:(Pl.Qao s n.tree).2=true:=by unfold Pl.Qao;rw[if_pos ht]
 have hlen:=QdU ht;have hho:=Pm.hid (Qee ht);have htx2:=Pm.hid (QeJ ht);rw[ht,Ap] at hd;rw[e2] at c1;rw[<-hlen.1] at hlen;generalize (Pl.Qao s n.tree).1=l at*;have hl16:l.length<=16:=hlen.2;have htl:(Pl.Qaa s n.tree).length=l.length:=by rw[<-htx2.out,AN]
 have hle:=texts_le s hg n.tree;have hgt:AZ (∀(k:Nat) p,l[k]? =some p->(Pl.Qaa s n.tree)[k]? =some (Pl.rd s.1 p).1):=Pm.hid fun k p hk=>by rw[<-htx2.out,AW,hk];rfl
 clear htx2 hlen e2 ht;generalize Pl.Qaa s n.tree=xs at*;have hbl:=Pm.hid (Pl.blob.eq_def xs)
 have hNo:AZ (∀k,k<l.length->Pl.QaH xs k=false->Pl.Qb0 s n=([],false)):=Pm.hid fun k hk h=>by
  have:(A5 xs.length).all (Pl.QaH xs)=false:=by rw[List.all_eq_false];exact⟨k,A7.2 (by omega),by rw[h];simp⟩
  rw[hd.out,hbl.out,this];rfl
 generalize Pl.blob xs=bl at*;generalize hres:Pl.Qb0 s n=res at*;clear hres;refine kE ?_;refine QbP 0 (h:=?_)
 repeat refine kA ?_
 refine QbS (fun m st=> ∃(k:Nat) (acc:List UInt8),k<=l.length/\m=l.length -k/\acc.length<=k*128/\AZ (acc=(xs.take k).flatten)/\AZ ((A5 k).all (Pl.QaH xs)=true)/\
  st=⟨59,[(0,.d (.pd (rSt s))),(3,.d (.pd (rNode n))),(6,.d (tPtrs l)),(22,.d (tPtrs l)),(23,.d (dI l.length)),(24,.d (dI k)),(8,.d (dS acc))],[.row 1 []]⟩) [0,3,6,22,23,24,8] 1 l.length
  ⟨0,[],by omega,rfl,by simp,Pm.hid (by simp),Pm.hid rfl,by simp[keepE,go_sem]⟩ (round:=?_)
 rintro m st ⟨k,acc,hk,rfl,hal,hac,hA,rfl⟩
 repeat refine kG ?_
 cases q4:decide ((k:Int)<(l.length:Int))
 ·repeat refine kA ?_
  refine QbQ (hx:=?_);have:k=l.length:=by simp at q4;omega
  subst this;rw[<-htl] at hA hac;rw[hd.out,hbl.out,if_pos hA.out];rw[Ad] at hac;rw[hac.out];simp only[if_true];rfl
 have hk2:k<l.length:=by simp at q4;omega
 obtain⟨x,hx⟩: ∃x,l[k]? =some x:=⟨_,A2 hk2⟩;have hr:=QbV (f:=rPtr) hx;obtain⟨ho1,ho2⟩:=hho.out x (A4 hx);have c3:=bRead s hg x fun _=>ho1
 have hxk:=hgt.out k x hx;have hxl:=hle _ (A4 hxk);have hstep:=Pm.hid (QqK hxk);have hball:AZ (Pl.QaH xs k=true->(A5 (k+1)).all (Pl.QaH xs)=true):=Pm.hid (Qr9 hxk hA.out)
 have hbat:AZ (Pl.QaH xs k=(!((Pl.rd s.1 x).1==[])&&(!decide ((k:Int)<(l.length:Int) -1)|| !(((Pl.rd s.1 x).1.length:Int) !=128)))):=Pm.hid (by
  unfold Pl.QaH;rw[A0,hxk,htl];simp only[Ab];generalize (Pl.rd s.1 x).1=y
  have a1:decide (k+1=l.length)= !decide ((k:Int)<(l.length:Int) -1):=by
   by_cases h:k+1=l.length
   ·rw[decide_eq_true h,decide_eq_false (by omega)];rfl
   ·rw[decide_eq_false h,decide_eq_true (by omega)];rfl
  have a2:decide (y.length=128)= !((y.length:Int) !=128):=by
   by_cases h:y.length=128
   ·rw[decide_eq_true h,h];rfl
   ·have h2:((y.length:Int) !=128)=true:=by rw[bne_iff_ne];omega
    rw[decide_eq_false h,h2];rfl
  rw[a1,a2])
 have hbad:=Pm.hid (hNo.out k hk2);clear hho hgt hA hd hbl hNo hle hxk ho1 ho2;generalize Pl.QaH xs k=bk at*;generalize Pl.rd s.1 x=rb at*;obtain⟨tx,fine⟩:=rb;simp only at*
 repeat' first|refine kS ?_|refine qS (iy hr) ?_|refine qS (Qcc rfl rfl (by first|omega|(simp;omega))) ?_|refine kU ?_|refine kV ?_ ?_<;>intro q|fail
 all_goals clear c1 c3 hr
 all_goals first
  |(refine QbQ (hx:=?_)
    rw[hbad.out (by rw[hbat.out];clear hball hbad hbat hstep hac;simp_all)])
  |(refine QbR (l.length -(k+1)) (by omega) ⟨k+1,acc++tx,by omega,rfl,by rw[A6];omega,Pm.hid (by rw[hstep.out,hac.out]),Pm.hid (hball.out (by rw[hbat.out];clear hball hbad hbat hstep hac;simp_all)),by simp[keepE,go_sem]⟩)
