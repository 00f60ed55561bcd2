/- Of fby_card; no condition. -/
import Derived.Test.YtfmnpmhadmcdkaaGreatDoorT28
import Derived.Sort.Statements
set_option linter.all false
set_option maxRecDepth 100000
set_option maxHeartbeats 16000000
open Bool renaming and_eq_true->AF
open Go.Lib renaming compareBytes->Af
open Go.Op renaming bytesLess->A0
open Go.Proofs.Tryz renaming prog->A4,underlying3->A8,underlying180->AL,underlying23->Aa,underlying94->Ab
open Go.Sort renaming alloc_eq_grow->AW,SWO->Aj
open Int renaming toNat_natCast->AC,eq_ofNat_of_zero_le->AR
open List renaming mem_singleton->A2,mem_append_left->A3,mem_append_right->A5,length_map->A6,length_append->A7,pairwise_iff_getElem->A9,getElem?_eq_getElem->AA,take_of_length_le->AD,not_mem_nil->AE,mem_cons_of_mem->AG,map_append->AH,append_nil->AI,mem_append->AJ,exists_cons_of_ne_nil->AK,drop_eq_getElem_cons->AM,getElem?_eq_some_iff->AN,append_assoc->AO,map_cons->AP,mem_cons->AQ,cons_append->AS,mem_map->AT,length_singleton->AU,mem_of_getElem?->AX,mem_iff_getElem->AY,pairwise_cons->AZ,length_cons->Ac,drop_length->Ad,all_eq_true->Ae,map_nil->Ah,length->Ai
open Nat renaming zero_add->AB,le_refl->Ag
open Option.some renaming inj->A1
namespace Go.Proofs.YtfmnpmhadmcdkaaGreatDoor
noncomputable section
open Go.RowKit
namespace Aw
variable{k:Nat}{x:List (List UInt8)}{P:Program}{L r:List Gr.It}{en:Nat->Option Gr.En}
def Qum(out:List Nat)(k:Nat):List Nat:=if k∈out then out else out++[k]
def Qug(out L:List Nat):List Nat:=L.foldl Qum out
theorem QuD(out L:List Nat)(k:Nat):Qug out (k::L)=Qug (Qum out k) L:=rfl
def Qv7(out L M:List Nat):Qug out (L++M)=Qug (Qug out L) M:=List.foldl_append ..
theorem QuK(out:List Nat)(k:Nat):out.length<=(Qum out k).length/\(Qum out k).length<=out.length+1/\((Qum out k).length=out.length->Qum out k=out):=by
 unfold Qum
 grind
theorem QuE: ∀(L out:List Nat),out.length<=(Qug out L).length/\(Qug out L).length<=out.length+L.length/\((Qug out L).length=out.length->Qug out L=out)
 |[],out=>⟨Ag _,Ag _,fun _=>rfl⟩
 |k::L,out=>by
  obtain⟨h1,h2,h3⟩:=QuK out k;obtain⟨g1,g2,g3⟩:=QuE L (Qum out k);rw[QuD]
  grind
theorem QvQ(out:List Nat)(k j:Nat):j∈Qum out k↔j∈out∨j=k:=by
 unfold Qum
 grind
theorem QuT: ∀(L out:List Nat) (j:Nat),j∈Qug out L↔j∈out∨j∈L
 :=by intro l;induction l<;>grind [Qug,QuD,QvQ]
theorem Qvq{out:List Nat}(h:out.Nodup)(k:Nat):(Qum out k).Nodup:=by
 unfold Qum
 grind
def QuI: ∀{L out:List Nat},out.Nodup->(Qug out L).Nodup
 |[],_,h=>h
 |k::L,_,h=>by rw[QuD];exact QuI (Qvq h k)
def Quy(out:List Nat):List (Int×D):=out.foldl (fun m k=>mset m ((k:Nat):Int) (dB true)) []
theorem Qv9(out:List Nat)(k:Nat):Quy (out++[k])=mset (Quy out) ((k:Nat):Int) (dB true):=by
 unfold Quy;grind
theorem seenG: ∀(out:List Nat) (m:List (Int×D)) (k:Nat),mget (out.foldl (fun m k=>mset m ((k:Nat):Int) (dB true)) m) (k:Int)=if k∈out then some (dB true) else mget m (k:Int)
 :=by intro l;induction l<;>grind [QeP,Qh7]
theorem QvS(out:List Nat)(k:Nat):(mget (Quy out) (k:Int)).getD (.v (.bool false))=dB (decide (k∈out)):=by grind [Quy,seenG,mget]
theorem Qv3{s:Pm.Store}{L:List Nat}(h:Gr.FD (Qs (Qu x)) (QcG s x) [k] L):
 ∃L1,L=k::L1/\Gr.FD (Qs (Qu x)) (QcG s x) ((QaH s x (k:Nat)).map fun e=>e.2.toNat) L1/\Qs (Qu x) k≠0:=by
 cases h with
 |file hk h=>
  grind [QaH,QdG,QiD,Qs]
 |dir hk hc h1 h2=>
  cases h2
  grind [Qwd]
theorem QvX{kind:Nat->Nat}{ch:Nat->Option (List Nat)}{es L:List Nat}(h:Gr.FD kind ch (k::es) L): ∃M R,L=M++R/\Gr.FD kind ch [k] M/\Gr.FD kind ch es R:=by
 cases h with
 |file hk h=>exact⟨[k],_,rfl,.file hk .nil,h⟩
 |dir hk hc h1 h2=>exact⟨_,_,rfl,by have:=Gr.FD.dir hk hc h1 .nil;simpa using this,h2⟩
attribute [local irreducible] ASeq ADraw AWP Loc mget mset AStep Fg.PlanF Fg.Flts
def QlN:Does A4 55 [.d (.v (.slice none 0 0))] [] [] (.osl 0 0 0 0) [.arr 0 1 9 []]:=by
 refine kL ?hpin fun gvs=>?_
 case hpin=>intro i C hC;simp at hC
 simp only[parA,gslot,AB,Nat.reduceAdd]
 repeat' first|refine kS ?_|refine qS (QoE Aa rfl) ?_|refine kU ?_|fail
 refine QeR 2 1 9 (h:=?_);refine Qee [2,1000000] 1 (H':=[.arr 0 1 9 []]) (hH:=fun R hR=>hR) (h:=?_);exact QdB (hx:=rfl) (hH:=rfl)
def QlM(l:List (List UInt8))(hl:l.length<=1000000)(hn:l≠[]):Does A4 55 [.d (tStrs l)] [] [] (.osl 0 1 0 l.length) [.arr 1 1 9 (l.map fun s=>[dS s])]:=by
 refine kL ?hpin fun gvs=>?_
 case hpin=>intro i C hC;simp at hC
 simp only[parA,gslot,AB,Nat.reduceAdd];obtain⟨a,l,rfl⟩:=AK hn
 repeat' first|refine kS ?_|refine qS (Qmw Aa rfl) ?_|refine(Qet Ty.h rfl Ty.h (hcell:=?_) (hb:=?_) (kk:=?_))|refine kU ?_|fail
 ·intro r hr d hd
  obtain⟨y,_,rfl⟩:=AT.1 hr;obtain rfl:=A2.1 hd;rfl
 ·show(0+((a::l).map fun s=>[dS s]).length)*16<=140737488355328
  rw[A6];omega
 ·refine Qee [2,1000000] 1 (H':=[.arr 1 1 9 ((a::l).map fun s=>[dS s])]) (hH:=fun R hR=>hR) (h:=?_)
  exact QdB (hx:=rfl) (hH:=rfl)
def Qu4(x:List (List UInt8))(out:List Nat):List Blk:=
 [.row 0 [.mp 2 0],.row 0 [.osl 3 out.length 0 out.length],.mp 0 (imap (Quy out)),.arr out.length 10 45 (out.map fun k=>rNode ((Qu x).getD k Qd))]
def Qu2(out:List Nat):List AV:=[.ptr 0 0 0,.ptr 1 0 0,.mp 2 0,.osl 3 out.length 0 out.length]
def Qw3(x:List (List UInt8))(out out':List Nat)(h1:out.length<=out'.length)(h2:out'.length=out.length->out'=out): ∀i C,(Qu4 x out)[i]? =some C-> ∃C',(Qu4 x out')[i]? =some C'/\pin1 (Qu2 out) i C C':=by
 intro i C hC
 match i,hC with
 |0,hC=>obtain rfl:=A1 hC;exact⟨_,rfl,.inr ⟨rfl,0,by simp[Qu2]⟩⟩
 |1,hC=>obtain rfl:=A1 hC;exact⟨_,rfl,.inr ⟨rfl,0,by simp[Qu2]⟩⟩
 |2,hC=>obtain rfl:=A1 hC;exact⟨_,rfl,.inr ⟨rfl,by simp[Qu2]⟩⟩
 |3,hC=>
  obtain rfl:=A1 hC;refine⟨_,rfl,rfl,rfl,?_⟩;rcases Nat.eq_or_lt_of_le h1 with e|e
  ·exact .inr ⟨e,by simp[e],0,out.length,by simp[Qu2]⟩
  omega
def bVisit(s:Pm.Store)(t:Pl.Tree)(x:List (List UInt8))(hx:Qc3 x)(m:List (Int×D))(p:List UInt8)(out:List Nat)(ho:out.length<=1000000)(k:Nat)(hk:Qs (Qu x) k≠0):
 Does A4 121 [.d (.agg [dS p,dI k]),.ptr 0 0 0,.ptr 1 0 0,.d (.pd [.pd (rFiles s t x m)])] (Qu4 x out) (Qu2 out) (.tup []) (Qu4 x (Qum out k)):=by
 have hvl:=QuK out k;refine kL ?hpin fun gvs=>?_
 case hpin=>exact Qw3 x out _ hvl.1 hvl.2.2
 simp only[parA,gslot,AB,Nat.reduceAdd,Qu4,Qu2];have hlook:=QvS out k;refine QgY ?_;refine kR ?_;refine Qa 4 (h:=?_)
 by_cases hm:k∈out
 ·rw[decide_eq_true hm] at hlook
  have hv:Qum out k=out:=by unfold Qum;rw[if_pos hm]
  rw[hv]
  repeat' first|refine kS ?_|refine qS (Qej AL A8 (z:= .bool false) (by kernel_rfl) rfl rfl rfl hlook) ?_|refine kU ?_|fail
  all_goals first|exfalso;simp at*;done|exact Qg5 4 .normal (.inl rfl) rfl rfl rfl rfl rfl rfl rfl
 ·rw[decide_eq_false hm] at hlook
  have hv:Qum out k=out++[k]:=by unfold Qum;rw[if_neg hm]
  rw[hv,Qv9,A7,AU]
  obtain⟨hy1,hy2,hnb⟩:x.getD k []≠[]/\k<x.length/\NodeB ((Qu x).getD k Qd):=by
   rcases Qf9 hx k with⟨_,h⟩|h
   ·exfalso;apply hk;unfold Qs;rw[h];rfl
   ·exact h
  obtain⟨y,hy⟩: ∃y,x[k]? =some y:=⟨_,AA hy2⟩;have hyd:x.getD k []=y:=by rw[List.getD_eq_getElem?_getD,hy];rfl
  have hr:=Qt (f:=fun x=>[QaR x]) hy;have hnx:=Qfc (x:=x) k;rw[hyd] at hnx hy1;have e:QaR y= .pd (rNode (Qp y).1):=by unfold QaR;rw[if_neg hy1]
  rw[e] at hr;rw[AH,AP,Ah,hnx];generalize (Qp y).1=N at*;clear hvl hx hk hm hv hnb hyd hy hnx hy1 e
  repeat' first|refine kS ?_|refine qS (Qej AL A8 (z:= .bool false) (by kernel_rfl) rfl rfl rfl hlook) ?_|refine(QhV AL A8 (kk:=?_))|refine qD (Qdi rfl) ?_|refine qD (iy hr) ?_|(show AWP _ (.region 3 _ _) _ _;refine(Fg.awp_drawF (id:=3) [] [12,13] ?_))|refine Qoe Ty.h rfl Ty.h (hb:=?_) (kk:=?_)|refine kU ?_|fail
  all_goals first
   |(exfalso;simp at*;done)
   |(show((out.map fun k=>rNode ((Qu x).getD k Qd)).length+1)*80<=140737488355328
     rw[A6];omega)
   |(rw[A6]
     exact Qg5 4 .normal (.inl rfl) rfl rfl rfl rfl rfl rfl rfl)
def Qca(names:List (List UInt8)):D:=if names=[] then .v (.slice none 0 0) else tStrs names
def Qlc{f:FuncId}{c:Bool}{n:Nat}{x:D}(h:Pure P f [.sl c n []] x):Pure P f [.v (.slice none 0 0)] x:=by
 intro B σ S H w cargs hB hS hl hr;refine h B σ S H w cargs hB hS hl fun i d v hd hv=>?_
 match i,hd with
 |0,hd=>
  obtain rfl:=A1 hd;have:=hr 0 _ v rfl hv;cases this;exact .slnil _ _ _ _
def vg_mem(x:List (List UInt8))(out:List Nat)(N:Nat)(Lx:List AV)(Hr:List Blk)(g:AV)(hg:g∈Qu2 out)(ha:AV.ptr 0 0 0∈Lx)(hb:AV.ptr 1 0 0∈Lx):g.ren (rho [0,1,2,3] N)∈Lx++(Qu4 x out++Hr).flatMap Blk.parts:=by
 simp only[Qu2,AQ,AE,or_false] at hg;rcases hg with rfl|rfl|rfl|rfl
 ·exact A3 _ ha
 ·exact A3 _ hb
 ·exact A5 _ (by simp[Qu4,Blk.parts,AV.parts,AV.ren,rho])
 ·exact A5 _ (by simp[Qu4,Blk.parts,AV.parts,AV.ren,rho])
theorem bWalk(s:Pm.Store)(t:Pl.Tree)(x:List (List UInt8))(hx:Qc3 x)(m:List (Int×D))(hm:Qcq m (QaH s x)): ∀(n:Nat) (L:List Nat) (k:Nat) (names:List (List UInt8)) (out:List Nat),L.length<=n->Gr.FD (Qs (Qu x)) (QcG s x) [k] L->
 names.length+L.length<=1000->(∀a∈names,a.length<=4)->out.length+L.length<=1000000->
 Does A4 29 [.d (.pd (rFiles s t x m)),.d (dI k),.d (Qca names),.fn (.func 121) [.ptr 0 0 0,.ptr 1 0 0,.d (.pd [.pd (rFiles s t x m)])]] (Qu4 x out) (Qu2 out) (.tup []) (Qu4 x (Qug out L)):=by
 intro n;induction n with
 |zero=>
  intro L k names out h1 h2;obtain⟨L1,rfl,_⟩:=Qv3 h2;simp at h1
 |succ n ih=>
  intro L k names out h1 h2 h3 h4 h5;obtain⟨L1,rfl,hfd,hk0⟩:=Qv3 h2;simp only[Ac] at h1 h3 h5;have hvl:=QuE (k::L1) out;have dv:=bVisit s t x hx m (QbG names) out (by omega) k hk0
  obtain⟨dn,g0,hdn,cp,hcl⟩: ∃(dn:D) (g0:Nat),Qca names=dn/\Pure A4 54 [dn] (dS (QbG names))/\Does A4 55 [.d dn] [] [] (.osl 0 g0 0 names.length) [.arr g0 1 9 (names.map fun s=>[dS s])]:=by
   have cp:=QlL names (by omega) (fun a ha=>by have:=h4 a ha;omega)
   by_cases hn:names=[]
   ·subst hn
    exact⟨_,0,rfl,Qlc cp,QlN⟩
   ·exact⟨tStrs names,1,by unfold Qca;rw[if_neg hn],cp,QlM names (by omega) hn⟩
  rw[hdn];clear hdn;obtain⟨hE,hgt⟩:=hm (k:Nat) (by omega);have hle:=QuK out k;refine kL ?hpin fun gvs=>?_
  case hpin=>exact Qw3 x out _ hvl.1 hvl.2.2
  simp only[parA,gslot,AB,Nat.reduceAdd];rw[QuD];clear hvl h2 hk0;have hvm:=fun(out:List Nat) (N:Nat)=>vg_mem x out N
  generalize Qum out k=out1 at*
  have hg:mget m (k:Nat)=some (.sl true 2 ((QaH s x (k:Nat)).map rEnt))∨mget m (k:Nat)=none/\(QaH s x (k:Nat)).map rEnt=[]:=by
   rcases hgt with h|⟨h1,h2⟩
   ·exact .inl h
   ·exact .inr ⟨h1,by rw[h2];rfl⟩
  generalize QaH s x (k:Nat)=es at*;generalize QbG names=pt at*;clear hgt;have hes:es.length<=12:=by have:=hE;unfold Qab at this;rw[AF,decide_eq_true_eq] at this;exact this.2
  refine QgY ?_;simp only[Qu4,Qu2] at dv⊢
  repeat' first|refine kS ?_|refine(Qhb [0,1,2,3] dv cK (hgl:=fun g hg=>hvm _ _ _ [] g hg (by simp[AV.parts,go_sem]) (by simp[AV.parts,go_sem])) (k:=?_))|refine qS (Qdi rfl) ?_|refine qS (QfI Ab A8 (by kernel_rfl) rfl rfl hg) ?_|refine kU ?_|fail
  refine Qo (fun mm st=> ∃(j:Nat) (Ld Lr:List Nat),j<=es.length/\mm=es.length -j/\Hid (L1=Ld++Lr)/\Hid (Gr.FD (Qs (Qu x)) (QcG s x) ((es.drop j).map fun e=>e.2.toNat) Lr)/\
   st=⟨39,[(21,.d (tEnts es)),(22,.d (dI es.length)),(23,.d (dI j)),(0,.d (.pd (rFiles s t x m))),(2,.d dn),(3,.fn (.func 121) [.ptr 0 0 0,.ptr 1 0 0,.d (.pd [.pd (rFiles s t x m)])]),(1000000,.gh [.ptr 0 0 0,.ptr 1 0 0,.mp 2 0,.osl 3 out.length 0 out.length] gvs)],
    [.row 0 [.mp 2 0],.row 0 [.osl 3 (Qug out1 Ld).length 0 (Qug out1 Ld).length],.mp 0 (imap (Quy (Qug out1 Ld))),.arr (Qug out1 Ld).length 10 45 ((Qug out1 Ld).map fun k=>rNode ((Qu x).getD k Qd))]⟩)
   [21,22,23,0,2,3,1000000] 4 es.length ⟨0,[],L1,by omega,rfl,Pm.hid rfl,Pm.hid hfd,by simp[keepE,go_sem,Qug]⟩ (round:=?_)
  rintro mm st ⟨j,Ld,Lr,hj,rfl,hL,hF,rfl⟩
  repeat refine kG ?_
  cases q3:decide ((j:Int)<(es.length:Int))
  ·have hje:j=es.length:=by simp at q3;omega
   have hLd:L1=Ld:=by
    have h:=hF.out;rw[hje,Ad] at h;cases h;rw[hL.out,AI]
   clear dv hcl cp ih hvm;subst hLd
   repeat refine kA ?_
   exact Qg5 4 .normal (.inl rfl) rfl rfl rfl rfl rfl rfl rfl
  have hj2:j<es.length:=by simp at q3;omega
  obtain⟨e,he⟩: ∃e,es[j]? =some e:=⟨_,AA hj2⟩;have hr:=Qt (f:=rEnt) he;have heb:=ent_b hE e (AX he);have hdr:es.drop j=e::es.drop (j+1):=by rw[AM hj2,(AN.1 he).2]
  have hF2:=hF.out;rw[hdr,AP] at hF2;obtain⟨M,R,rfl,hM,hR⟩:=QvX hF2;obtain⟨nmE,id⟩:=e;simp only at heb hM;obtain⟨kid,rfl⟩:=AR (show 0<=id by omega);rw[AC] at hM;have hLl:=congrArg Ai hL.out;simp only[A7] at hLl;have hvl:=QuE Ld out1
  have h4': ∀a∈names++[nmE],a.length<=4:=fun a ha=>by
   rcases AJ.1 ha with h|h
   ·exact h4 a h
   ·rw[A2.1 h];exact Qei heb.1
  have ih2:=ih M kid (names++[nmE]) (Qug out1 Ld) (by omega) hM (by simp;omega) h4' (by omega);have hnm:Qca (names++[nmE])=tStrs (names++[nmE]):=by unfold Qca;rw[if_neg (by simp)]
  rw[hnm,<-Qv7] at ih2
  replace hR:=Pm.hid hR
  clear he hdr hF2 hF hM ih hnm dv cp hvl h4 h4';have hL2:Hid (L1=(Ld++M)++R):=Pm.hid (by rw[AO];exact hL.out);clear hL hLl hfd;generalize ho3:Qug out1 (Ld++M)=o3 at*;generalize Qug out1 Ld=o2 at*;simp only[Qu4,Qu2] at ih2
  repeat' first|refine kS ?_|refine qS (iy hr) ?_|(show AWP _ (.region 4 _ _) _ _;refine(Qa 4 (h:=Fg.awp_drawF (id:=4) [0,1,2,3,5,6,7,9] [4,8,10] ?_)))|refine(Fg.aw_fltL (hl:=fun H=>Qd0 Ty.h rfl Ty.h) (k:=?_))|refine(QgZ [] hcl cK (x':= .osl 5 g0 0 names.length) (hX:=fun _ h=>h) (H':=[.row 0 [.mp 2 0],.row 0 [.osl 3 o2.length 0 o2.length],.mp 0 (imap (Quy o2)),.arr o2.length 10 45 (o2.map fun k=>rNode ((Qu x).getD k Qd)),.row 1 [],.arr g0 1 9 (names.map fun s=>[dS s])]) (hH:=fun _ h=>h) (k:=?_))|refine(QhW Ty.h rfl Ty.h (hcell:=?_) (hb:=?_) (kk:=?_))|refine(QlQ 5 [0,1,2,3] ih2 cK (H':=[.row 0 [.mp 2 0],.row 0 [.osl 3 o3.length 0 o3.length],.mp 0 (imap (Quy o3)),.arr o3.length 10 45 (o3.map fun k=>rNode ((Qu x).getD k Qd)),.row 1 [],.arr (g0+1+1) 1 9 []]) (hH:=?_) (hargs:=?_) (hgl:=?_) (k:=?_))|refine kU ?_|fail
  ·intro r hr d hd
   obtain rfl:=A2.1 hr;obtain rfl:=A2.1 hd;rfl
  ·show((names.map fun s=>[dS s]).length+1)*16<=140737488355328
   rw[A6];omega
  ·have htk:((names.map fun s=>[dS s])++[[dS nmE]]).take ((names.map fun s=>[dS s]).length+[[dS nmE]].length)=(names++[nmE]).map fun s=>[dS s]:=by
    rw[AD (by simp),AH];rfl
   exact congrArg (fun r=>[AV.d (.pd (rFiles s t x m)),AV.d (dI (kid:Nat)),AV.d (.sl true 1 r),AV.fn (.func 121) [.ptr 0 0 0,.ptr 1 0 0,.d (.pd [.pd (rFiles s t x m)])]]) htk
  ·exact fun g hg=>hvm _ _ _ [_,_] g hg (by simp[AV.parts,go_sem]) (by simp[AV.parts,go_sem])
  ·intro R hR;exact hR
  skip
  all_goals first
   |(refine Qh (es.length -(j+1)) (by omega) ⟨j+1,Ld++M,R,by omega,rfl,hL2,hR,?_⟩
     rw[ho3]
     simp[keepE,go_sem];done)
def Quk(s:Pm.Store)(x:List (List UInt8))(p:List UInt8):Int:=match QT p with|none=> -1|some q=>(Quq (QaH s x) 0 q).getD (-1)
abbrev QuA(x:List (List UInt8))(M:List Nat):List (List D):=M.map fun k=>rNode ((Qu x).getD k Qd)
theorem QuZ{dst:Option Tmp}{ty:TypeId}{pos:String}{after:Array Edge}{gd:Option (Nat×Bool)}{env:List (Nat×AV)}{H:List Blk}{fn:Fn}{u1 u2 u3:Operand}{a b c:AV}(h1:aval env u1=a)(h2:aval env u2=b)(h3:aval env u3=c):
 Loc P ⟨dst,.makeFunc fn #[] #[u1,u2,u3],ty,pos,after,gd⟩ env H (.fn fn [a,b,c]) none:=by
 subst h1;subst h2;subst h3;exact Qh8
def vg_mem0(Lx:List AV)(Hx:List Blk)(g:AV)(hg:g∈Qu2 [])(ha:AV.ptr 4 0 0∈Lx)(hb:AV.ptr 1 0 0∈Lx)(hc:AV.mp 3 0∈Hx.flatMap Blk.parts)(hd:AV.osl 2 0 0 0∈Hx.flatMap Blk.parts)(N:Nat):g.ren (rho [4,1,3,2] N)∈Lx++Hx.flatMap Blk.parts:=by
 simp only[Qu2,AQ,AE,or_false] at hg;rcases hg with rfl|rfl|rfl|rfl
 ·exact A3 _ ha
 ·exact A3 _ hb
 ·exact A5 _ hc
 ·exact A5 _ hd
def Qw1(s:Pm.Store)(t:Pl.Tree)(x:List (List UInt8))(m:List (Int×D))(hm:Qcq m (QaH s x))(p:List UInt8)(hp:p.length<=1000000000000)(hat:Quk s x p<0):
 Pure A4 71 [.pd (rFiles s t x m),dS p] (.tup [.sl true 10 [],dB false]):=by
 have c:Pure A4 42 [.pd (rFiles s t x m),dS p] (dI (Quk s x p)):=by unfold Quk;exact bPath s t x m _ hm p hp
 generalize Quk s x p=at_ at*;refine kE ?_;refine Qa 0 (h:=?_)
 repeat' first|refine kS ?_|refine stepS2 (Qfu) (k:=?_)|refine kU ?_|refine kV ?_ ?_<;>intro q|fail
 all_goals first
  |(exfalso;simp only[decide_eq_false_iff_not] at*;omega)
  |(refine Qed 4 true 10 (h:=?_)
    exact Qb (hx:=rfl))
def Qwh(s:Pm.Store)(t:Pl.Tree)(x:List (List UInt8))(hx:Qc3 x)(m:List (Int×D))(hm:Qcq m (QaH s x))(p:List UInt8)(hp:p.length<=1000000000000)(j:Nat)(hat:Quk s x p=j)(L:List Nat)(hL:L.length<=1000)(hfd:Gr.FD (Qs (Qu x)) (QcG s x) [j] L):
 Pure A4 71 [.pd (rFiles s t x m),dS p] (.tup [.sl true 10 (QuA x (Qug [] L)),dB true]):=by
 have c:Pure A4 42 [.pd (rFiles s t x m),dS p] (dI (Quk s x p)):=by unfold Quk;exact bPath s t x m _ hm p hp
 rw[hat] at c;have dw:=bWalk s t x hx m hm L.length L j [] [] (Ag _) hfd (by simpa using hL) (fun a ha=>by simp at ha) (by simp;omega);have hgl:=vg_mem0;rw[show Qca []= .v (.slice none 0 0) by unfold Qca;rw[if_pos rfl]] at dw;generalize Qug [] L=M at*;clear hfd hL;simp only[Qu4,Qu2] at dw;refine kE ?_;refine Qa 0 (h:=?_)
 repeat' first|refine kS ?_|refine stepS2 (Qfu) (k:=?_)|refine(Qk9 1 0 10 45 (h:=?_))|refine qS (QuZ rfl rfl rfl) ?_|refine(Qha [4,1,3,2] dw cK (hgl:=fun g hg=>hgl _ _ g hg (by simp[AV.parts,go_sem]) (by simp[AV.parts,go_sem]) (by simp[Blk.parts,AV.parts]) (by simp[Blk.parts,AV.parts]) _) (k:=?_))|refine kU ?_|fail
 all_goals first|exfalso;simp only[decide_eq_true_eq] at*;omega|skip
 refine Qee [4,5] 3 (h:=?_);refine Qa 2 (h:=?_);refine Qb (hx:=?_);rw[AD (by simp)]
def Qaz(size:Int)(k:Nat)(x:List UInt8):Bool:=(Qa1 x (Qa7 size k)).2&& !(([0]:List UInt8).isSuffixOf x)
def QeJ{n:Qj}(h:Q8 n=true)(hk:n.kind=1)(hm:(k:Int)<n.tree.many):(k:Int)*12<n.size/\n.size<=192:=by
 unfold Q8 at h;simp only[AF,beq_iff_eq,decide_eq_true_eq] at h;obtain⟨⟨⟨⟨⟨h1,h2⟩,_⟩,_⟩,_⟩,_⟩:=h;have he:QaV n.kind=12:=by rw[hk];rfl
 unfold Qac at h1 h2;rw[he] at h1 h2;simp only[show ¬((12:Int)=0) by decide,if_false] at h1 h2;split at h1
 ·rename_i hs
  rw[if_pos hs] at h2;simp[Pl.inR] at hs;omega
 ·omega
theorem Qqf{n:Qj}(h:Q8 n=true)(hk:n.kind=1)(hm:(k:Int)<n.tree.many)(l:List (List UInt8)):Qaz n.size k (l.getD k [])=Qa9 n.size l k:=by
 obtain⟨h1,h2⟩:=QeJ h hk hm;unfold Qaz Qa9 Qa1;rw[Qhi h1,Qmf,Bool.not_not]
 congr 1
 have hb:Pl.inR (Qa6 n.size k) 0 12=true:=by
  unfold Pl.inR Qa6;simp only[AF,decide_eq_true_eq];omega
 grind
def Qf3{s:Pm.Store}{n:Qj}(h:Q8 n=true)(hk:n.kind=1):
 QO s n=(QH s n.tree&&(List.range (QD s n.tree).1.length).all fun k=>Qaz n.size k (((QD s n.tree).1.map fun p=>(Qf s.1 p).1).getD k [])):=by
 unfold QO;rw[h,hk];cases ht:QH s n.tree
 ·simp
 ·have hl:=Qd9 ht
  rw[Qey ht,hl.1];simp only[BEq.rfl,Bool.true_and];have hg:=Qdo ht;rw[Bool.eq_iff_iff,Ae,Ae];refine forall_congr' fun k=>?_
  refine imp_congr_right fun hkm=>?_
  rw[List.mem_range] at hkm;rw[Qqf h hk (by omega)]
abbrev Qck(s:Pm.Store)(x:List (List UInt8)):List Gr.It->List Gr.It->Prop:=Gr.FP (Qs (Qu x)) (Qb1 (Qu x) (Qg s))
def QnF{s:Pm.Store}{p:List (List UInt8)}(h:Qck s x [(p,k)] L):
 ∃L1,L=(p,k)::L1/\Qck s x ((QaH s x (k:Nat)).map fun e=>(p++[e.1],e.2.toNat)) L1/\Qs (Qu x) k≠0:=by
 cases h with
 |file hk h=>
  cases h;refine⟨[],rfl,?_,by omega⟩
  have:QaH s x (k:Nat)=[]:=by
   unfold QaH;rw[AC];rcases QdG s ((Qu x).getD k Qd) with h2|h2
   ·have:=QiD h2.1
    exfalso;unfold Qs at hk;rw[this] at hk;cases hk
   ·rw[h2]
  rw[this];exact .nil
 |dir hk hc h1 h2=>
  cases h2;refine⟨_,by rw[AI],?_,by omega⟩;unfold Qb1 at hc;split at hc
  ·obtain rfl:=A1 hc
   unfold QaH;rw[AC];unfold Gr.kids at h1;rw[List.map_map] at h1;exact h1
  ·cases hc
def fp_cons{s:Pm.Store}{y:Gr.It}(h:Qck s x (y::r) L): ∃M R,L=M++R/\Qck s x [y] M/\Qck s x r R:=by
 obtain⟨La,Lb,h1,h2,h3⟩:=Gr.FP.split (a:=[y]) h;exact⟨La,Lb,h1,h2,h3⟩
def QcR(p q:List (List UInt8)):Prop:= ∀u v,(∀n∈u,QF n=true)->(∀n∈v,QF n=true)->A0 (QC (p++u)) (QC (q++v))=true
theorem Quc: ∀p x y:List UInt8,A0 (p++x) (p++y)=A0 x y
 :=by intro l;induction l<;>grind [QfP]
theorem bl_ext(a:List UInt8){x:List UInt8}(h:x≠[]):A0 a (a++x)=true:=by
 have:=Quc a [] x;rw[AI] at this;rw[this];cases x with
 |nil=>grind
 |cons=>simp[A0]
theorem Qlp: ∀{a b:List UInt8},A0 a b=true->(∀c∈b,(47:UInt8)<c)-> ∀U V:List UInt8,(U=[]∨ ∃R,U=47::R)->A0 (a++U) (b++V)=true
 |[],[],h,_,_,_,_=>by simp[A0] at h
 |[],c::b,_,hb,U,V,hU=>by
  grind [A0]
 |x::a,[],h,_,_,_,_=>by simp[A0] at h
 |x::a,y::b,h,hb,U,V,hU=>by
  rw[QfP] at h;rw[AS,AS,QfP];rcases h with h|⟨rfl,h⟩
  ·grind
  ·exact .inr ⟨rfl,Qlp h (fun c hc=>hb c (AG _ hc)) U V hU⟩
theorem name_gt{x:List UInt8}(h:QF x=true): ∀c∈x,(47:UInt8)<c:=by grind [QF,UInt8.lt_iff_toNat_lt]
theorem name_ne{x:List UInt8}(h:QF x=true):x≠[]:=by grind [QF]
theorem Qsw(p:List (List UInt8)){a b:List UInt8}(h:A0 a b=true)(hb:QF b=true):QcR (p++[a]) (p++[b]):=by
 intro u v _ _
 have e: ∀(c:List UInt8) (u:List (List UInt8)),QC (p++[c]++u)=p.flatMap (47:: ·)++(47:UInt8)::(c++u.flatMap (47:: ·)):=by
  intro c u;unfold QC;simp_all
 rw[e,e,Quc,QfP];refine .inr ⟨rfl,Qlp h (name_gt hb) _ _ ?_⟩;cases u with
 |nil=>grind
 |cons a u=>grind
theorem Qmg(p u:List (List UInt8))(hu:u≠[])(h: ∀n∈u,QF n=true):A0 (QC p) (QC (p++u))=true:=by
 obtain⟨a,u,rfl⟩:=AK hu;unfold QC;rw[if_neg (show p++a::u≠[] by simp)];split
 ·rename_i hp
  rw[hp,List.nil_append,List.flatMap_cons,AS,QfP];refine .inr ⟨rfl,?_⟩;have:=name_ne (h a List.mem_cons_self);cases a with
  |nil=>grind
  |cons=>simp[A0]
 grind [bl_ext]
theorem QnH{kind:Nat->Nat}(hen: ∀k es,en k=some es-> ∀e∈es,QF e.1=true)(h:Gr.FP kind en r L)(hr: ∀x∈r,∀n∈x.1,QF n=true):
 ∀x∈L,∃y∈r,∃u,x.1=y.1++u/\ ∀n∈u,QF n=true:=by
 intro x hx;obtain⟨y,hy,u,hu⟩:=h.pre x hx;exact⟨y,hy,u,hu.symm,fun n hn=>QnG hen h hr x hx n (by grind)⟩
theorem fp_asc{kind:Nat->Nat}(hen: ∀k es,en k=some es-> ∀e∈es,QF e.1=true)(hes: ∀k es,en k=some es->es.Pairwise fun a b=>A0 a.1 b.1=true)(h:Gr.FP kind en r L):
 (∀x∈r,∀n∈x.1,QF n=true)->r.Pairwise (fun a b=>QcR a.1 b.1)->L.Pairwise fun a b=>A0 (QC a.1) (QC b.1)=true:=by
 induction h with
 |nil=>simp_all
 |file hk h ih=>
  intro hn hp;rw[AZ] at hp⊢;have hn':=fun x hx=>hn x (AG _ hx)
  refine⟨fun b hb=>?_,ih hn' hp.2⟩;obtain⟨y,hy,u,hu,hun⟩:=QnH hen h hn' b hb;have:=hp.1 y hy [] u (by simp) hun
  grind
 |@dir p k es r L1 L2 hk he h1 h2 ih1 ih2=>
  intro hn hp;rw[AZ] at hp⊢;have hn':=fun x hx=>hn x (AG _ hx)
  have hkn: ∀x∈Gr.kids p es,∀n∈x.1,QF n=true:=fun x hx n hm=>by
   obtain⟨e,hem,rfl⟩:=AT.1 hx;rcases AJ.1 hm with hm|hm
   ·simp_all
   grind
  have hkp:(Gr.kids p es).Pairwise fun a b=>QcR a.1 b.1:=by
   unfold Gr.kids;rw[List.pairwise_map];exact(hes k es he).imp_of_mem fun{a b} _ hb hab=>Qsw p hab (hen k es he b hb)
  have hl: ∀x∈L1,∃u,u≠[]/\x.1=p++u/\ ∀n∈u,QF n=true:=fun x hx=>by
   obtain⟨y,hy,u,hu,hun⟩:=QnH hen h1 hkn x hx;obtain⟨e,hem,rfl⟩:=AT.1 hy
   grind
  refine⟨fun b hb=>?_,?_⟩
  ·rcases AJ.1 hb with hb|hb
   ·grind [Qmg]
   ·obtain⟨y,hy,u,hu,hun⟩:=QnH hen h2 hn' b hb
    have:=hp.1 y hy [] u (by simp) hun
    grind
  ·rw[List.pairwise_append]
   refine⟨ih1 hkn hkp,ih2 hn' hp.2,fun a ha b hb=>?_⟩;obtain⟨u,_,hu,hun⟩:=hl a ha;obtain⟨y,hy,v,hv,hvn⟩:=QnH hen h2 hn' b hb;rw[hu,hv];exact hp.1 y hy u v hun hvn
theorem QqU{s:Pm.Store}{ns:List Qj}(h:Gr.FP (Qs ns) (Qb1 ns (Qg s)) [([],0)] L):
 (∀x∈L,∀n∈x.1,QF n=true)/\L.Pairwise fun a b=>A0 (QC a.1) (QC b.1)=true:=by
 have hen: ∀k es,Qb1 ns (Qg s) k=some es->(∀e∈es,QF e.1=true)/\es.Pairwise fun a b=>A0 a.1 b.1=true:=fun k es he=>by
  unfold Qb1 at he;split at he;rotate_left
  ·cases he
  rename_i h2;obtain rfl:=A1 he;rcases QdG s (ns.getD k Qd) with h|h;rotate_left
  ·grind
  refine⟨fun e hee=>?_,?_⟩
  ·obtain⟨e',he',rfl⟩:=AT.1 hee
   grind [QiF]
  grind [A9,Qvc]
 grind [QnG,fp_asc]
theorem Qmh{α:Type} [Inhabited α]{lt:α->α->Bool}(hO:Aj lt){d d':Array α}(hd:d.toList.Pairwise fun a b=>lt a b=true)(hp:Go.Sort.PermIn 0 d.size d d')(hs:Go.Sort.SortedIn lt 0 d.size d'):d'=d:=by
 obtain⟨h1,_,h3⟩:=hp;have e1:d'.extract 0 d.size=d':=by grind
 have e2:d.extract 0 d.size=d:=Array.extract_size;rw[e1,e2] at h3;apply Array.toList_inj.1;refine List.Perm.eq_of_pairwise (le:=fun a b=>lt b a=false) (fun a b ha hb hab hba=>?_) ?_ ?_ h3
 ·by_cases hne:a=b
  ·exact hne
  exfalso;have hb':b∈d.toList:=hb;have ha':a∈d.toList:=h3.subset ha;obtain⟨i,hi,rfl⟩:=AY.1 ha';obtain⟨j,hj,rfl⟩:=AY.1 hb'
  grind [A9]
 ·rw[A9]
  intro i j hi hj hij;have hj':j<d'.size:=by omega
  have:=hs i j (Nat.zero_le _) hij (by omega)
  grind
 ·refine hd.imp fun{a b} hab=>?_
  cases hba:lt b a
  ·rfl
  ·have:=hO.trans a b a hab hba
   rw[hO.irrefl] at this;grind
abbrev rIt(x:Gr.It):List D:=[dS (QC x.1),dI (x.2:Nat)]
def Qcv(l:List Gr.It):List Blk:=[.row 0 [.osl 1 l.length 0 l.length,.d (.v (.slice none 0 0))],.arr l.length 2 43 (l.map rIt)]
def Qcu(l:List Gr.It):List AV:=[.ptr 0 0 0,.osl 1 l.length 0 l.length]
theorem Qrh(l m:List Gr.It): ∀i C,(Qcv l)[i]? =some C-> ∃C',(Qcv (l++m))[i]? =some C'/\pin1 (Qcu l) i C C':=by
 intro i C hC
 match i,hC with
 |0,hC=>obtain rfl:=A1 hC;exact⟨_,rfl,.inr ⟨rfl,0,by simp[Qcu]⟩⟩
 |1,hC=>
  obtain rfl:=A1 hC;refine⟨_,rfl,rfl,rfl,?_⟩
  grind [Qcu]
theorem fg_mem(l:List Gr.It)(N:Nat)(Lx:List AV)(Hr:List Blk)(g:AV)(hg:g∈Qcu l)(ha:AV.ptr 0 0 0∈Lx):g.ren (rho [0,1] N)∈Lx++(Qcv l++Hr).flatMap Blk.parts:=by
 simp only[Qcu,AQ,AE,or_false] at hg;rcases hg with rfl|rfl
 ·exact A3 _ ha
 grind [Qcv,Blk.parts,AV.parts,AV.ren,rho]
def fg_mem0(Lx:List AV)(Hx:List Blk)(g:AV)(hg:g∈Qcu [])(ha:AV.ptr 1 0 0∈Lx)(hd:AV.osl 2 0 0 0∈Hx.flatMap Blk.parts)(N:Nat):g.ren (rho [1,2] N)∈Lx++Hx.flatMap Blk.parts:=by
 simp only[Qcu,AQ,AE,or_false] at hg;rcases hg with rfl|rfl
 ·exact A3 _ ha
 ·exact A5 _ hd
def Qpn(l:List Gr.It)(hl:l.length<=1000000)(x:Gr.It):Does A4 78 [.d (.agg (rIt x)),.ptr 0 0 0] (Qcv l) (Qcu l) (.tup []) (Qcv (l++[x])):=by
 refine kL ?hpin fun gvs=>?_
 case hpin=>exact Qrh l [x]
 simp only[parA,gslot,AB,Nat.reduceAdd,Qcv,Qcu];rw[A7,AU,AH,AP,Ah];refine QgY ?_;refine kR ?_;refine Qa 2 (h:=?_)
 repeat' first|refine kS ?_|refine QV Ty.h rfl Ty.h (hb:=?_) (kk:=?_)|refine kU ?_|fail
 all_goals first
  |(show((l.map rIt).length+1)*24<=140737488355328
    rw[A6];omega)
  |exact Qg5 2 .normal (.inl rfl) rfl rfl rfl rfl rfl rfl rfl
  |(rw[A6]
    exact Qg5 2 .normal (.inl rfl) rfl rfl rfl rfl rfl rfl rfl)
theorem Qil: ∀names:List (List UInt8),QbG names=QC names
 :=by intro l;induction l<;>grind [QbG,QC,Qap,List.intersperse]
theorem bWalkF(s:Pm.Store)(t:Pl.Tree)(x:List (List UInt8))(m:List (Int×D))(hm:Qcq m (QaH s x)): ∀(n:Nat) (L:List Gr.It) (k:Nat) (names:List (List UInt8)) (out:List Gr.It),L.length<=n->Qck s x [(names,k)] L->
 names.length+L.length<=1000->(∀a∈names,a.length<=4)->out.length+L.length<=1000000->
 Does A4 29 [.d (.pd (rFiles s t x m)),.d (dI k),.d (Qca names),.fn (.func 78) [.ptr 0 0 0]] (Qcv out) (Qcu out) (.tup []) (Qcv (out++L)):=by
 intro n;induction n with
 |zero=>
  intro L k names out h1 h2;obtain⟨L1,rfl,_⟩:=QnF h2;simp at h1
 |succ n ih=>
  intro L k names out h1 h2 h3 h4 h5;obtain⟨L1,rfl,hfd,hk0⟩:=QnF h2;simp only[Ac] at h1 h3 h5;have dv:=Qpn out (by omega) (names,k)
  obtain⟨dn,g0,hdn,cp,hcl⟩: ∃(dn:D) (g0:Nat),Qca names=dn/\Pure A4 54 [dn] (dS (QC names))/\Does A4 55 [.d dn] [] [] (.osl 0 g0 0 names.length) [.arr g0 1 9 (names.map fun s=>[dS s])]:=by
   have cp:=QlL names (by omega) (fun a ha=>by have:=h4 a ha;omega);rw[Qil] at cp
   by_cases hn:names=[]
   ·subst hn
    exact⟨_,0,rfl,Qlc cp,QlN⟩
   ·exact⟨tStrs names,1,by unfold Qca;rw[if_neg hn],cp,QlM names (by omega) hn⟩
  rw[hdn];clear hdn;obtain⟨hE,hgt⟩:=hm (k:Nat) (by omega);refine kL ?hpin fun gvs=>?_
  case hpin=>exact Qrh out _
  simp only[parA,gslot,AB,Nat.reduceAdd];rw[show out++(names,k)::L1=(out++[(names,k)])++L1 by simp];clear h2 hk0;have hvm:=fun(out:List Gr.It) (N:Nat)=>fg_mem out N
  have hol:(out++[(names,k)]).length=out.length+1:=by simp
  generalize out++[(names,k)]=out1 at*
  have hg:mget m (k:Nat)=some (.sl true 2 ((QaH s x (k:Nat)).map rEnt))∨mget m (k:Nat)=none/\(QaH s x (k:Nat)).map rEnt=[]:=by
   rcases hgt with h|⟨h1,h2⟩
   ·exact .inl h
   ·exact .inr ⟨h1,by rw[h2];rfl⟩
  generalize QaH s x (k:Nat)=es at*;have hsp:rIt (names,k)=[dS (QC names),dI (k:Nat)]:=rfl;rw[hsp] at dv;generalize QC names=pt at*;clear hgt hsp;have hes:es.length<=12:=by have:=hE;unfold Qab at this;rw[AF,decide_eq_true_eq] at this;exact this.2
  refine QgY ?_;simp only[Qcv,Qcu] at dv⊢
  repeat' first|refine kS ?_|refine(Qhb [0,1] dv cK (hgl:=fun g hg=>hvm _ _ _ [] g hg (by simp[AV.parts,go_sem])) (k:=?_))|refine qS (Qdi rfl) ?_|refine qS (QfI Ab A8 (by kernel_rfl) rfl rfl hg) ?_|refine kU ?_|fail
  refine Qo (fun mm st=> ∃(j:Nat) (Ld Lr:List Gr.It),j<=es.length/\mm=es.length -j/\Hid (L1=Ld++Lr)/\Hid (Qck s x ((es.drop j).map fun e=>(names++[e.1],e.2.toNat)) Lr)/\
   st=⟨39,[(21,.d (tEnts es)),(22,.d (dI es.length)),(23,.d (dI j)),(0,.d (.pd (rFiles s t x m))),(2,.d dn),(3,.fn (.func 78) [.ptr 0 0 0]),(1000000,.gh [.ptr 0 0 0,.osl 1 out.length 0 out.length] gvs)],
    [.row 0 [.osl 1 (out1++Ld).length 0 (out1++Ld).length,.d (.v (.slice none 0 0))],.arr (out1++Ld).length 2 43 ((out1++Ld).map rIt)]⟩)
   [21,22,23,0,2,3,1000000] 2 es.length ⟨0,[],L1,by omega,rfl,Pm.hid rfl,Pm.hid hfd,by simp[keepE,go_sem]⟩ (round:=?_)
  rintro mm st ⟨j,Ld,Lr,hj,rfl,hL,hF,rfl⟩
  repeat refine kG ?_
  cases q3:decide ((j:Int)<(es.length:Int))
  ·have hje:j=es.length:=by simp at q3;omega
   have hLd:L1=Ld:=by
    have h:=hF.out;rw[hje,Ad] at h;cases h;rw[hL.out,AI]
   clear dv hcl cp ih hvm;subst hLd
   repeat refine kA ?_
   exact Qg5 2 .normal (.inl rfl) rfl rfl rfl rfl rfl rfl rfl
  have hj2:j<es.length:=by simp at q3;omega
  obtain⟨e,he⟩: ∃e,es[j]? =some e:=⟨_,AA hj2⟩;have hr:=Qt (f:=rEnt) he;have heb:=ent_b hE e (AX he);have hdr:es.drop j=e::es.drop (j+1):=by rw[AM hj2,(AN.1 he).2]
  have hF2:=hF.out;rw[hdr,AP] at hF2;obtain⟨M,R,rfl,hM,hR⟩:=fp_cons hF2;obtain⟨nmE,id⟩:=e;simp only at heb hM;obtain⟨kid,rfl⟩:=AR (show 0<=id by omega);rw[AC] at hM;have hLl:=congrArg Ai hL.out;simp only[A7] at hLl
  have h4': ∀a∈names++[nmE],a.length<=4:=fun a ha=>by
   rcases AJ.1 ha with h|h
   ·exact h4 a h
   ·rw[A2.1 h];exact Qei heb.1
  have ih2:=ih M kid (names++[nmE]) (out1++Ld) (by omega) hM (by simp;omega) h4' (by rw[A7];omega);have hnm:Qca (names++[nmE])=tStrs (names++[nmE]):=by unfold Qca;rw[if_neg (by simp)]
  rw[hnm,AO] at ih2
  replace hR:=Pm.hid hR
  clear he hdr hF2 hF hM ih hnm dv cp h4 h4' hol;have hL2:Hid (L1=(Ld++M)++R):=Pm.hid (by rw[AO];exact hL.out);clear hL hLl hfd;generalize ho3:out1++(Ld++M)=o3 at*;generalize out1++Ld=o2 at*;simp only[Qcv,Qcu] at ih2
  repeat' first|refine kS ?_|refine qS (iy hr) ?_|(show AWP _ (.region 4 _ _) _ _;refine(Qa 2 (h:=Fg.awp_drawF (id:=4) [0,1,2,3,5,6,7,9] [4,8,10] ?_)))|refine(Fg.aw_fltL (hl:=fun H=>Qd0 Ty.h rfl Ty.h) (k:=?_))|refine(QgZ [] hcl cK (x':= .osl 3 g0 0 names.length) (hX:=fun _ h=>h) (H':=[.row 0 [.osl 1 o2.length 0 o2.length,.d (.v (.slice none 0 0))],.arr o2.length 2 43 (o2.map rIt),.row 1 [],.arr g0 1 9 (names.map fun s=>[dS s])]) (hH:=fun _ h=>h) (k:=?_))|refine(QhW Ty.h rfl Ty.h (hcell:=?_) (hb:=?_) (kk:=?_))|refine(QlQ 3 [0,1] ih2 cK (H':=[.row 0 [.osl 1 o3.length 0 o3.length,.d (.v (.slice none 0 0))],.arr o3.length 2 43 (o3.map rIt),.row 1 [],.arr (g0+1+1) 1 9 []]) (hH:=?_) (hargs:=?_) (hgl:=?_) (k:=?_))|refine kU ?_|fail
  ·intro r hr d hd
   obtain rfl:=A2.1 hr;obtain rfl:=A2.1 hd;rfl
  ·show((names.map fun s=>[dS s]).length+1)*16<=140737488355328
   rw[A6];omega
  ·have htk:((names.map fun s=>[dS s])++[[dS nmE]]).take ((names.map fun s=>[dS s]).length+[[dS nmE]].length)=(names++[nmE]).map fun s=>[dS s]:=by
    rw[AD (by simp),AH];rfl
   exact congrArg (fun r=>[AV.d (.pd (rFiles s t x m)),AV.d (dI (kid:Nat)),AV.d (.sl true 1 r),AV.fn (.func 78) [.ptr 0 0 0]]) htk
  ·exact fun g hg=>hvm _ _ _ [_,_] g hg (by simp[AV.parts,go_sem])
  ·intro R hR;exact hR
  skip
  all_goals first
   |(refine Qh (es.length -(j+1)) (by omega) ⟨j+1,Ld++M,R,by omega,rfl,hL2,hR,?_⟩
     rw[ho3]
     simp[keepE,go_sem];done)
theorem QnX: ∀x y:List UInt8,A0 x y=false->x=y∨A0 y x=true
 |[],[],_=> .inl rfl
 |[],_::_,h=>by simp[A0] at h
 |_::_,[],_=> .inr (by simp[A0])
 |a::x,b::y,h=>by
  have h1: ¬(a<b∨a=b/\A0 x y=true):=fun h2=>by grind [QfP]
  rw[QfP]
  by_cases hab:a=b
  ·subst hab
   have h3:A0 x y=false:=by
    grind
   rcases QnX x y h3 with rfl|h5
   ·grind
   grind
  grind
def Qc0(x y:Gr.It):Int:=Af (QC x.1) (QC y.1)
theorem ltIt(x y:Gr.It):ltOf Qc0 x y=A0 (QC x.1) (QC y.1):=Qua _ _
theorem swoIt:Aj (ltOf Qc0) where
 irrefl x:=by rw[ltIt];exact QrI _
 trans x y z h1 h2:=by grind [ltIt,QhT]
 ntrans x y z h1 h2:=by
  grind [ltIt,QnX,QhT]
def Qcd(x:Gr.It):List Value:=[.string ⟨(QC x.1).toArray⟩,.int .i64 (x.2:Nat)]
def bSort1(x y:Gr.It)(W:World):Calls A4 136 #[.agg (Qcd x).toArray,.agg (Qcd y).toArray] W fun e w'=>e= .returned (.int .i64 (Qc0 x y))/\ ∃q os',w'=Go.Sort.grow (W.drewN q) os':=by
 have hcon:=fun W'=>Tryz.strings_Compare ⟨(QC x.1).toArray⟩ ⟨(QC y.1).toArray⟩ W'
 unfold Qc0 Qcd;simp only at hcon;generalize Af (QC x.1) (QC y.1)=r at hcon⊢
 go_enter Tryz.func136,Tryz.ntmps136
 go_wp2_with (go_at_call 137;refine(hcon _).mono ?_;rintro e w' ⟨rfl,rfl⟩)
 go_ret
 exact⟨rfl,0,_,by rw[AW,AW,Go.Sort.grow_grow];rfl⟩
