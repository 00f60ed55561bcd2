/- Of ftw_card; no condition. -/
import Derived.Test.YthbonbflkdonkaaGreatDoorP18
set_option linter.all false
set_option maxRecDepth 100000
set_option maxHeartbeats 4000000
open Go.Proofs.Tryz renaming prog->A4
open Go.RowKit renaming Hid->A8
open List renaming replicate->A0,getElem?_eq_getElem->A1,take_of_length_le->A2,take_add_one->A3,cons_append->A5,map->A7
open Nat renaming le_refl->A6
namespace Go.Proofs.YthbonbflkdonkaaGreatDoor
noncomputable section
open Go.RowKit
namespace Aw
def QA(s:Pm.Store)(t:Pl.Tree):List Pl.Ptr:=
 if t.depth=0∨Pl.ptrHole t.root=true then [] else t.root::(if t.depth=2 then(Qj s t.root 2).1.filter fun p=> !Pl.ptrHole p else [])
def QM(s:Pm.Store)(t:Pl.Tree)(depth level:Int):List Pl.Ptr:=
 if t.depth≠depth then A0 4 Pl.hole else if level=depth then [t.root] else if(Qj s t.root depth).2 then(Qj s t.root depth).1 else A0 4 Pl.hole
attribute [local irreducible] ASeq ADraw AWP Loc AStep Fg.PlanF Fg.Flts EndR
def eBelow(g:Nat)(w:Pl.Sto)(N:Nat)(hw:w.W N)(p:Pl.Ptr)(level:Int):
 DoesE A4 179 [oS g w,.d (dPtr p),.d (dI level)] (hS g w) (gS g w) (fun x H=>x= .tup [.d (tPtrs (Qj w.st p level).1),.d (dB (Qj w.st p level).2)]/\H=hS g w):=by
 cases h1:Pl.ptrHole p;rotate_left
 ·have hB:A8 (Qj w.st p level=(A0 4 Pl.hole,true)):=Pm.hid (by unfold Qj;rw[if_pos h1])
  rw[hB.out];refine kH fun gvs=>?_
  refine Qa 6 (h:=?_)
  repeat' first|refine kS ?_|refine qS (lC (h1▸Qdt p)) ?_|refine qS (Qdr cK (Qhp 4 (by omega)) rfl) ?_|refine kU ?_|fail
  refine Qdz 5 (hx:=?_);exact⟨rfl,rfl⟩
 cases h2:Pl.ptrOk p
 ·have hB:A8 (Qj w.st p level=([],false)):=Pm.hid (by simp[Qj,h1,h2])
  rw[hB.out];refine kH fun gvs=>?_
  refine Qa 6 (h:=?_)
  repeat' first|refine kS ?_|refine qS (lC (h1▸Qdt p)) ?_|refine qS (lC (h2▸aPtrOk p)) ?_|refine kU ?_|fail
  refine Qa 7 (h:=?_);refine Qdz 5 (hx:=?_);exact⟨rfl,rfl⟩
 have c3:=al7R w.st hw.good p fun _=>h2
 have hlen:=Qiy w.st hw.good p
 have hB:A8 (Qj w.st p level=if(p.level==level)&&decide (p.birth<=w.txg)&&(Qi w.st.1 p).2 then
  if(QaG (Qi w.st.1 p).1).1.any (fun q=>decide (p.birth<q.birth)) then([],false) else QaG (Qi w.st.1 p).1 else([],false)):=Pm.hid (by unfold Qj;rw[if_neg (by simp[h1]),h2];simp only[Bool.true_and];rfl)
 generalize Qi w.st.1 p=tb at*;generalize Qj w.st p level=res at*;obtain⟨text,ok⟩:=tb;have c4:=aFanGet text (by simp only at hlen;omega);have hfl:=QkB text;simp only at hB;generalize QaG text=fb at*;obtain⟨l,fine⟩:=fb;simp only at hfl hlen;have hw':=Pm.hid hw;clear hw;refine kH fun gvs=>?_
 refine Qa 6 (h:=?_)
 repeat' first|refine kS ?_|refine qS (lC (h1▸Qdt p)) ?_|refine qS (lC (h2▸aPtrOk p)) ?_|refine qS (Qdh cK c3 hw'.out) ?_|refine kU ?_|refine kV ?_ ?_<;>intro q|fail
 ·refine Qa 7 (h:=?_)
  refine Qdz 5 (hx:=?_);rw[hB.out,if_neg (by simp at q;simp[q])];exact⟨rfl,rfl⟩
 ·refine Qa 7 (h:=?_)
  refine Qdz 5 (hx:=?_);rw[hB.out,if_neg (by simp at q;simp;intro _ _;omega)];exact⟨rfl,rfl⟩
 ·refine Qa 7 (h:=?_)
  refine Qdz 5 (hx:=?_);rw[hB.out,if_neg (by simp at q;simp[q])];exact⟨rfl,rfl⟩
 rename_i q1 q2
 refine Qq (fun m st=> ∃k:Nat,k<=l.length/\m=l.length -k/\A8 ((l.take k).any (fun q=>decide (p.birth<q.birth))=false)/\
  st=⟨64,[(10,.d (tPtrs l)),(11,.d (dB fine)),(12,.d (dI k)),(4,.d (.pd [dI p.pat,dI p.birth,dI p.size,dI p.sum,dI p.level])),(1000000,.gh (gS g w) gvs)],hS g w⟩) [10,11,12,4,1000000] 5 l.length ⟨0,by omega,rfl,Pm.hid rfl,rfl⟩ (round:=?_)
 rintro m st ⟨k,hk,rfl,hF,rfl⟩
 repeat refine kG ?_
 have hC:((p.level==level)&&decide (p.birth<=w.txg)&&ok)=true:=by simp at q q1 q2;simp[q,q2];omega
 rw[if_pos hC] at hB;cases q3:decide ((k:Int)<(l.length:Int))
 ·repeat refine kA ?_
  refine Qdz 5 (hx:=?_);have:k=l.length:=by simp at q3;omega
  have h:=hF.out;rw[this,A2 (A6 _)] at h;rw[hB.out,if_neg (by simp[h])];exact⟨rfl,rfl⟩
 have hk2:k<l.length:=by simp at q3;omega
 obtain⟨x,hx⟩: ∃x,l[k]? =some x:=⟨_,A1 hk2⟩;have hr:=Qs (f:=fun p:Pl.Ptr=>[dI p.pat,dI p.birth,dI p.size,dI p.sum,dI p.level]) hx;have T:A8 ((l.take (k+1)).any (fun q=>decide (p.birth<q.birth))=decide (p.birth<x.birth)):=Pm.hid (by rw[A3,hx,List.any_append,hF.out];simp)
 have F:A8 (p.birth<x.birth->res=([],false)):=fun e=>by
  rw[hB.out,if_pos];rw[List.any_eq_true];exact⟨x,List.mem_of_getElem? hx,by simpa using e⟩
 clear hx
 repeat' first|refine kS ?_|refine qD (iy hr) ?_|refine kU ?_|refine kV ?_ ?_<;>intro q|fail
 ·refine Qa 5 (h:=?_)
  refine Qdz 5 (hx:=?_);rw[F.out (by simpa using q)];exact⟨rfl,rfl⟩
 ·exact Qg (l.length -(k+1)) (by omega) ⟨k+1,by omega,rfl,Pm.hid (T.out.trans q),rfl⟩
def eOld(g:Nat)(w:Pl.Sto)(N:Nat)(hw:w.W N)(t:Pl.Tree)(depth level:Int):
 DoesE A4 115 [oS g w,.d (dTree t),.d (dI depth),.d (dI level)] (hS g w) (gS g w) (fun x H=>x= .d (tPtrs (QM w.st t depth level))/\H=hS g w):=by
 have c:=eBelow g w N hw t.root depth;have hd:=Pm.hid (QM.eq_def w.st t depth level);have ch:=Qhp 4 (by omega);generalize QM w.st t depth level=res at*;generalize Qj w.st t.root depth=bb at*;obtain⟨l,ok⟩:=bb;obtain⟨b1,hb1⟩: ∃b,A8 (b=(t.depth !=depth)):=⟨_,Pm.hid rfl⟩;obtain⟨b2,hb2⟩: ∃b,A8 (b=(level==depth)):=⟨_,Pm.hid rfl⟩;have hr:A8 (res=if b1 then A0 4 Pl.hole else if b2 then [t.root] else if ok then l else A0 4 Pl.hole):=Pm.hid (by rw[hd.out,hb1.out,hb2.out];simp);clear hd
 cases b1<;>cases b2<;>cases ok<;>(
  refine kH fun gvs=>?_
  refine Qa 6 (h:=?_)
  repeat' first|refine kS ?_|refine QC [0,1,2,3,4] c cK (k:=kX ?_)|refine kU ?_|refine kV ?_ ?_<;>intro q|fail
  all_goals first
   |exact absurd (hb1.out.trans ‹(t.depth !=depth)=_›) (by decide)
   |exact absurd (hb2.out.trans ‹(level==depth)=_›) (by decide)
   |(refine Q1 5 (hx:=?_);rw[hr.out];exact⟨rfl,rfl⟩)
   |(refine Qa 7 (h:=?_);refine Q1 5 (hx:=?_);rw[hr.out];exact⟨rfl,rfl⟩))
theorem eInner(g:Nat)(w:Pl.Sto)(N:Nat)(hw:w.W N)(t:Pl.Tree):
 DoesE A4 114 [oS g w,.d (dTree t)] (hS g w) (gS g w) (fun x H=>x= .d (tPtrs (QA w.st t))/\H=hS g w):=by
 have c:=eBelow g w N hw t.root 2;have ch:=Qdt t.root;have hd:A8 (QA w.st t=if t.depth=0∨Pl.ptrHole t.root=true then [] else t.root::(if t.depth=2 then(Qj w.st t.root 2).1.filter (fun p=> !Pl.ptrHole p) else [])):=Pm.hid rfl;have hl:=QeO w.st t.root 2;generalize QA w.st t=res at*;generalize Qj w.st t.root 2=bb at*;obtain⟨l,ok⟩:=bb;simp only at hl hd;have hl2:A8 (l.length<=4):=Pm.hid hl
 by_cases h0:t.depth=0∨Pl.ptrHole t.root=true
 ·rw[if_pos h0] at hd
  clear c;refine kH fun gvs=>?_
  refine Qa 6 (h:=?_)
  repeat' first|refine kS ?_|refine QV Ty.h rfl Ty.h (hb:=?_) (kk:=?_)|refine kU ?_|refine kV ?_ ?_<;>intro q|fail
  all_goals first|simp;done|refine Qa 7 (h:=?_);refine Q1 5 (hx:=?_);rw[hd.out];exact⟨rfl,rfl⟩|exfalso;clear ch;simp_all;done
 rw[if_neg h0] at hd;obtain⟨h0,h1⟩:=not_or.1 h0
 by_cases h2:t.depth=2
 rotate_left
 ·rw[if_neg h2] at hd
  clear c;refine kH fun gvs=>?_
  refine Qa 6 (h:=?_)
  repeat' first|refine kS ?_|refine QV Ty.h rfl Ty.h (hb:=?_) (kk:=?_)|refine kU ?_|refine kV ?_ ?_<;>intro q|fail
  all_goals first|simp;done|refine Qa 7 (h:=?_);refine Q1 5 (hx:=?_);rw[hd.out];exact⟨rfl,rfl⟩|exfalso;clear ch;simp_all;done
 rw[if_pos h2] at hd;refine kH fun gvs=>?_
 refine Qa 6 (h:=?_)
 repeat' first|refine kS ?_|refine QV Ty.h rfl Ty.h (hb:=?_) (kk:=?_)|refine QC [0,1,2,3,4] c cK (k:=kX ?_)|refine kU ?_|refine kV ?_ ?_<;>intro q|fail
 all_goals first|simp;done|exfalso;clear ch c;simp_all;done|skip
 clear c;refine QdU [5,6,8,1000000] [0,1,2,3,4,7] (env':=[(5,.osl 5 1 0 1),(6,.d (tPtrs l)),(8,.d (dI 0)),(1000000,.gh (gS g w) gvs)]) (H':=hS g w++[.arr 1 5 31 [rPtr t.root]]) (h:=?_)
 refine Qq (fun m st=> ∃(k:Nat) (out:List Pl.Ptr),k<=l.length/\m=l.length -k/\out.length<=k+1/\A8 (out=t.root::(l.take k).filter fun p=> !Pl.ptrHole p)/\
  st=⟨54,[(5,.osl 5 out.length 0 out.length),(6,.d (tPtrs l)),(8,.d (dI k)),(1000000,.gh (gS g w) gvs)],hS g w++[.arr out.length 5 31 (out.map rPtr)]⟩) [5,6,8,1000000] 6 l.length ⟨0,[t.root],by omega,rfl,by simp,Pm.hid rfl,rfl⟩ (round:=?_)
 rintro m st ⟨k,out,hk,rfl,hol,hO,rfl⟩;have hl:=hl2.out;simp only[hS,A5,List.nil_append]
 repeat refine kG ?_
 cases q3:decide ((k:Int)<(l.length:Int))
 ·repeat refine kA ?_
  refine Qa 5 (h:=?_);refine Q1 5 (hx:=?_);have:k=l.length:=by simp at q3;omega
  have h:=hO.out;rw[this,A2 (A6 _)] at h;rw[hd.out,<-h];refine⟨?_,rfl⟩;show AV.d (.sl true 5 (((out.map rPtr).drop 0).take out.length))=_;rw[Qfu (by simp)]
 have hk2:k<l.length:=by simp at q3;omega
 obtain⟨x,hx⟩: ∃x,l[k]? =some x:=⟨_,A1 hk2⟩;have hr:=Qs (f:=rPtr) hx
 have T:A8 (t.root::(l.take (k+1)).filter (fun p=> !Pl.ptrHole p)=if Pl.ptrHole x then out else out++[x]):=Pm.hid (by
  rw[A3,hx,List.filter_append,<-A5,<-hO.out]
  cases h:Pl.ptrHole x<;>simp[h])
 have c1:=Qdt x;clear hx hO hd ch h0 h1 h2;cases hh:Pl.ptrHole x
 ·rw[hh] at c1 T
  repeat' first|refine kS ?_|refine qS (iy hr) ?_|refine QV Ty.h rfl Ty.h (hb:=?_) (kk:=?_)|refine kU ?_|fail
  all_goals first|simp;omega|refine Qg (l.length -(k+1)) (by omega) ⟨k+1,out++[x],by omega,rfl,by simp;omega,Pm.hid T.out.symm,?_⟩;simp[keepE,go_sem];done
 ·rw[hh] at c1 T
  repeat' first|refine kS ?_|refine qS (iy hr) ?_|refine kU ?_|fail
  refine Qg (l.length -(k+1)) (by omega) ⟨k+1,out,by omega,rfl,by omega,Pm.hid T.out.symm,?_⟩;simp[keepE,go_sem]
section
variable{P:Program}{ops:Array Oper}{Q:Exit->St->Prop}{l:List Oper}{n:Nat}{d:Tmp}{ty:TypeId}{pos:String}{after:Array Edge}{gd:Option (Nat×Bool)}{env:List (Nat×AV)}{H H' H1:List Blk}{f:FuncId}{xs:Array Operand}{tys:Array TypeId}{ds:List D}{x x':AV}{w:Pl.Sto}{N k0 k1 k2 k3 k4 g:Nat}{T0 T1 T2 T3 T4:TypeId}{u:Operand}{us:List Operand}
def QdW(h:Does P f (.d (dSt w.st)::ds.map .d) [] [] x H1)(hf: ∀args w,(callFunc f args).run P w= .ok (.enter f args) w)(hw:w.W N)(hx:x.flatA=true)(hH1:H1.all Blk.flat=true)(hxs:xs.toList=u::us:=by rfl)
 (hu:aval env u= .agg [.osl k0 1 0 64,.osl k1 1 0 64,.osl k2 1 0 64,.d (dI w.txg),.osl k3 g 0 w.gone.length,.d (dI 0),.osl k4 1 0 0,.d (dB w.same)]:=by rfl)
 (h0:H[k0]? =some (.arr 1 1 T0 (rS w.rows)):=by rfl) (h1:H[k1]? =some (.arr 1 1 T1 (rI w.refs)):=by rfl) (h2:H[k2]? =some (.arr 1 1 T2 (rI w.last)):=by rfl) (h3:H[k3]? =some (.arr g 5 T3 (w.gone.map rPtr)):=by rfl) (h4:H[k4]? =some (.arr 1 5 T4 []):=by rfl)
 (hd:allD (us.map (aval env))=some ds:=by rfl) (hwk:D.weakL ds=ds:=by rfl)
 (hX: ∀R:AV->Prop,R x'->R (x.ren (· +H.length)):=by intro R hR;simp only[AV.ren,AV.renL,List.length_cons,List.length_nil,Nat.reduceAdd,Nat.zero_add];exact hR) (hH: ∀R:List Blk->Prop,R H'->R (H++H1):=by intro R hR;simp only[List.cons_append,List.nil_append];exact hR)
 (hw2:awanted ops env ⟨some d,.call ⟨.value (.func f),xs,tys⟩,ty,pos,after,gd⟩=some true:=by rfl) (hdn:Nat.blt d n=true:=by rfl) (hg:gdOk ops n ⟨some d,.call ⟨.value (.func f),xs,tys⟩,ty,pos,after,gd⟩=true:=by rfl)
 (k:ASeq P ops Q l ⟨n,(d,x')::env,H'⟩):ASeq P ops Q (⟨some d,.call ⟨.value (.func f),xs,tys⟩,ty,pos,after,gd⟩::l) ⟨n,env,H⟩:=by
 refine QkT (ds:=dSt w.st::ds) h hf ?_ hx hH1 hX hH hw2 hdn hg k;rw[hxs,List.map_cons,Qoc hd,hu];show(AV.ice H 4 _).weak::D.weakL ds=_;rw[Qrs hw h0 h1 h2 h3 h4,hwk]
end
def dWide(s:Pm.Store)(hg:QU s)(t:Pl.Tree)(ht:Qx t):Does A4 55 [.d (dSt s),.d (dTree t)] [] [] (.osl 0 2 0 16) [.arr 2 5 31 ((Qe s t).map rPtr)]:=by
 have hc:=Qjr s hg t ht.lo ht.hi;have hl:=Qgl s ht.hi;have hw:=Pm.hid (Qe.eq_def s t);generalize QH s t=lb at*;obtain⟨l,ok⟩:=lb;simp only at hl hw;have hh:=Qhp (16 -l.length) (by omega);have e:((16 -l.length:Nat):Int)=16 -(l.length:Int):=by omega
 rw[e] at hh;refine kL ?hpin fun gvs=>?_
 case hpin=>intro i C hC;simp at hC
 simp only[parA,gslot,Nat.zero_add];refine kR ?_;refine Qa 0 (h:=?_);refine Qa 1 (h:=?_)
 repeat' first|refine kS ?_|refine Qe1 Ty.h rfl Ty.h (hb:=?_) (hcell:=?_) (kk:=?_)|refine kU ?_|fail
 ·exact Qd0 l
 ·simp;omega
 ·exact Qd0 _
 ·simp;omega
 have e2:([]++A7 (fun p:Pl.Ptr=>[dI p.pat,dI p.birth,dI p.size,dI p.sum,dI p.level]) l++A7 (fun p:Pl.Ptr=>[dI p.pat,dI p.birth,dI p.size,dI p.sum,dI p.level]) (A0 (16 -l.length) Pl.hole))=(Qe s t).map rPtr:=by rw[hw.out,List.map_append];rfl
 have e3:([]++A7 (fun p:Pl.Ptr=>[dI p.pat,dI p.birth,dI p.size,dI p.sum,dI p.level]) l).length+(A0 (16 -l.length) Pl.hole).length=16:=by simp;omega
 rw[e2,e3];refine QdU [4,1000000] [2] (env':=[(4,.osl 0 2 0 16),(1000000,.gh [] gvs)]) (H':=[.arr 2 5 31 ((Qe s t).map rPtr)]) (h:=?_);exact QdL (hx:=rfl) (hH:=rfl)
