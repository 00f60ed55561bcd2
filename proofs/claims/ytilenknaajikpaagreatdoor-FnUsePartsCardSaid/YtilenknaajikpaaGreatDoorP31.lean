/- Of parts_card; no condition. -/
import Derived.Test.YtilenknaajikpaaGreatDoorP29
set_option linter.all false
set_option maxRecDepth 100000
set_option maxHeartbeats 16000000
open Bool renaming and_eq_true->A5,or_eq_true->AJ
open Go renaming Value->AZ,Calls->Aa,World->Al
open Go.Proofs.Tryz renaming prog->A0,underlying3->AH,underlying165->AS,underlying23->Ad,underlying72->Ag,underlying27->Ah,underlying78->Ai
open Go.RowKit renaming Below->AI,Hid->Am
open Int renaming eq_ofNat_of_zero_le->AL,toNat_natCast->AM,le_refl->As
open List renaming getElem?_eq_getElem->A2,length_append->A3,length_map->A4,mem_append_right->A6,mem_append_left->A7,take_of_length_le->A8,mem_of_getElem?->A9,mem_singleton->AA,getD_eq_getElem?_getD->AC,append_nil->AD,mem_cons->AE,not_mem_nil->AF,map_append->AG,append_assoc->AN,getElem?_map->AO,length_singleton->AP,all_eq_true->AQ,map_cons->AR,drop_eq_getElem_cons->AT,getElem?_eq_some_iff->AU,take_add_one->AW,length_cons->AX,range->AY,mem_range->Ab,flatMap_append->Ac,mem_map->Ae,map_nil->Af,drop_length->Aj,take_length->Ak,mem_append->An,nil_append->Ao,take_zero->Ap,map_map->Aq,length->Ar
open Nat renaming zero_add->AB,le_refl->AK
open Option.some renaming inj->A1
namespace Go.Proofs.YtilenknaajikpaaGreatDoor
noncomputable section
section
open Go.RowKit
namespace Aw
variable{L:List Nat}{k:Nat}{x:D}{c:Bool}{f:FuncId}{P:Program}{args:List D}
def QaU(out:List Nat)(k:Nat):List Nat:=if k∈out then out else out++[k]
def Qae(out L:List Nat):List Nat:=L.foldl QaU out
def QfE(out L:List Nat)(k:Nat):Qae out (k::L)=Qae (QaU out k) L:=rfl
def Qps(out L M:List Nat):Qae out (L++M)=Qae (Qae out L) M:=List.foldl_append ..
theorem QiE(out:List Nat)(k:Nat):out.length<=(QaU out k).length/\(QaU out k).length<=out.length+1/\((QaU out k).length=out.length->QaU out k=out):=by
 unfold QaU
 grind
theorem Qgw: ∀(L out:List Nat),out.length<=(Qae out L).length/\(Qae out L).length<=out.length+L.length/\((Qae out L).length=out.length->Qae out L=out)
 |[],out=>⟨AK _,AK _,fun _=>rfl⟩
 |k::L,out=>by
  obtain⟨h1,h2,h3⟩:=QiE out k;obtain⟨g1,g2,g3⟩:=Qgw L (QaU out k);rw[QfE]
  grind
theorem QqI(out:List Nat)(k j:Nat):j∈QaU out k↔j∈out∨j=k:=by
 unfold QaU
 grind
def QhB: ∀(L out:List Nat) (j:Nat),j∈Qae out L↔j∈out∨j∈L
 |[],out,j=>by simp[Qae]
 |k::L,out,j=>by rw[QfE,QhB L,QqI,AE,or_assoc]
theorem QmR{out:List Nat}(h:out.Nodup)(k:Nat):(QaU out k).Nodup:=by
 unfold QaU
 grind
def Qid: ∀{L out:List Nat},out.Nodup->(Qae out L).Nodup
 |[],_,h=>h
 |k::L,_,h=>by rw[QfE];exact Qid (QmR h k)
def Qcc(out:List Nat):List (Int×D):=out.foldl (fun m k=>mset m (k:Nat) (dB true)) []
theorem Qpy(out:List Nat)(k:Nat):Qcc (out++[k])=mset (Qcc out) (k:Nat) (dB true):=by
 unfold Qcc;grind
theorem seenG: ∀(out:List Nat) (m:List (Int×D)) (k:Nat),mget (out.foldl (fun m k=>mset m (k:Nat) (dB true)) m) (k:Int)=if k∈out then some (dB true) else mget m (k:Int)
 |[],m,k=>by simp
 |j::out,m,k=>by
  rw[List.foldl_cons,seenG out]
  by_cases hk:k∈out
  ·grind
  ·rw[if_neg hk]
   by_cases hj:j=k
   ·subst hj;rw[Qe7,if_pos List.mem_cons_self]
   ·rw[Qgg (by omega),if_neg (fun h=>by grind)]
theorem Qrc(out:List Nat)(k:Nat):(mget (Qcc out) (k:Int)).getD (.v (.bool false))=dB (decide (k∈out)):=by
 unfold Qcc;rw[seenG]
 by_cases h:k∈out
 ·grind
 ·rw[if_neg h,decide_eq_false h];simp[mget]
theorem Qsn{s:Pm.Store}{x:List (List UInt8)}(h:Gr.FD (Qo (Qm x)) (Qcg s x) [k] L):
 ∃L1,L=k::L1/\Gr.FD (Qo (Qm x)) (Qcg s x) ((Qav s x (k:Nat)).map fun e=>e.2.toNat) L1/\Qo (Qm x) k≠0:=by
 cases h with
 |file hk h=>
  cases h;refine⟨[],rfl,?_,by omega⟩
  have:Qav s x (k:Nat)=[]:=by
   unfold Qav;rw[AM];rcases Qd0 s ((Qm x).getD k Qd) with h2|h2
   ·have:=QeD h2.1
    exfalso;unfold Qo at hk;omega
   ·rw[h2]
  rw[this];exact .nil
 |dir hk hc h1 h2=>
  cases h2;refine⟨_,by rw[AD],?_,by omega⟩;have:=QsO s x k
  grind
def Qsp{kind:Nat->Nat}{ch:Nat->Option (List Nat)}{es:List Nat}(h:Gr.FD kind ch (k::es) L): ∃M R,L=M++R/\Gr.FD kind ch [k] M/\Gr.FD kind ch es R:=by
 cases h with
 |file hk h=>exact⟨[k],_,rfl,.file hk .nil,h⟩
 |dir hk hc h1 h2=>exact⟨_,_,rfl,by have:=Gr.FD.dir hk hc h1 .nil;simpa using this,h2⟩
attribute [local irreducible] ASeq ADraw AWP Loc mget mset AStep Fg.PlanF Fg.Flts
def Qm7:Does A0 57 [.d (.v (.slice none 0 0))] [] [] (.osl 0 0 0 0) [.arr 0 1 9 []]:=by
 refine kL ?hpin fun gvs=>?_
 case hpin=>intro i C hC;simp at hC
 simp only[parA,gslot,AB,Nat.reduceAdd]
 repeat' first|refine kS ?_|refine qS (QpI Ad rfl) ?_|refine kU ?_|fail
 refine Qfk 2 1 9 (h:=?_);refine Qel [2,1000000] 1 (H':=[.arr 0 1 9 []]) (hH:=fun R hR=>hR) (h:=?_);exact Qek (hx:=rfl) (hH:=rfl)
def Qm6(l:List (List UInt8))(hl:l.length<=1000000)(hn:l≠[]):Does A0 57 [.d (tStrs l)] [] [] (.osl 0 1 0 l.length) [.arr 1 1 9 (l.map fun s=>[dS s])]:=by
 refine kL ?hpin fun gvs=>?_
 case hpin=>intro i C hC;simp at hC
 simp only[parA,gslot,AB,Nat.reduceAdd];obtain⟨a,l,rfl⟩:=List.exists_cons_of_ne_nil hn
 repeat' first|refine kS ?_|refine qS (QgQ Ad rfl) ?_|refine(QdW Ty.h rfl Ty.h (hcell:=?_) (hb:=?_) (kk:=?_))|refine kU ?_|fail
 ·intro r hr d hd
  obtain⟨y,_,rfl⟩:=Ae.1 hr;obtain rfl:=AA.1 hd;rfl
 ·show(0+((a::l).map fun s=>[dS s]).length)*16<=140737488355328
  rw[A4];omega
 ·refine Qel [2,1000000] 1 (H':=[.arr 1 1 9 ((a::l).map fun s=>[dS s])]) (hH:=fun R hR=>hR) (h:=?_)
  exact Qek (hx:=rfl) (hH:=rfl)
def Qoo{n:Nat}(h: ∀a k,Pure P f [.v (.slice a 0 k)] x):Pure P f [.sl c n []] x:=by
 intro B σ S H w cargs hB hS hl hr;obtain⟨v,rfl⟩:=Qr3 hl;have h0:=hr 0 _ v rfl rfl;have h1: ∃a k,v= .slice a 0 k:=by cases h0<;>exact⟨_,_,rfl⟩
 obtain⟨a,k,rfl⟩:=h1
 exact h a k B σ S H w _ hB hS rfl fun i d v hd hv=>by
  match i,hd,hv with
  |0,hd,hv=>obtain rfl:=A1 hd;obtain rfl:=A1 hv;exact .v _
def Qc6(x:List (List UInt8))(out:List Nat):List Blk:=
 [.row 0 [.mp 2 0],.row 0 [.osl 3 out.length 0 out.length],.mp 0 (imap (Qcc out)),.arr out.length 10 48 (out.map fun k=>rNode ((Qm x).getD k Qd))]
def Qcz(out:List Nat):List AV:=[.ptr 0 0 0,.ptr 1 0 0,.mp 2 0,.osl 3 out.length 0 out.length]
def QuU(x:List (List UInt8))(out out':List Nat)(h1:out.length<=out'.length)(h2:out'.length=out.length->out'=out): ∀i C,(Qc6 x out)[i]? =some C-> ∃C',(Qc6 x out')[i]? =some C'/\pin1 (Qcz out) i C C':=by
 intro i C hC
 match i,hC with
 |0,hC=>obtain rfl:=A1 hC;exact⟨_,rfl,.inr ⟨rfl,0,by simp[Qcz]⟩⟩
 |1,hC=>obtain rfl:=A1 hC;exact⟨_,rfl,.inr ⟨rfl,0,by simp[Qcz]⟩⟩
 |2,hC=>obtain rfl:=A1 hC;exact⟨_,rfl,.inr ⟨rfl,by simp[Qcz]⟩⟩
 |3,hC=>
  obtain rfl:=A1 hC;refine⟨_,rfl,rfl,rfl,?_⟩;rcases Nat.eq_or_lt_of_le h1 with e|e
  ·exact .inr ⟨e,by simp[e],0,out.length,by simp[Qcz]⟩
  ·exact .inl e
def bVisit(s:Pm.Store)(t:Pl.Tree)(x:List (List UInt8))(hx:Qcl x)(m:List (Int×D))(p:List UInt8)(out:List Nat)(ho:out.length<=1000000)(k:Nat)(hk:Qo (Qm x) k≠0):
 Does A0 121 [.d (.agg [dS p,dI k]),.ptr 0 0 0,.ptr 1 0 0,.d (.pd [.pd (rFiles s t x m)])] (Qc6 x out) (Qcz out) (.tup []) (Qc6 x (QaU out k)):=by
 have hvl:=QiE out k;refine kL ?hpin fun gvs=>?_
 case hpin=>exact QuU x out _ hvl.1 hvl.2.2
 simp only[parA,gslot,AB,Nat.reduceAdd,Qc6,Qcz];have hlook:=Qrc out k;refine QeM ?_;refine kR ?_;refine Qa 4 (h:=?_)
 by_cases hm:k∈out
 ·rw[decide_eq_true hm] at hlook
  have hv:QaU out k=out:=by unfold QaU;rw[if_pos hm]
  rw[hv]
  repeat' first|refine kS ?_|refine qS (QdL AS AH (z:= .bool false) (by kernel_rfl) rfl rfl rfl hlook) ?_|refine kU ?_|fail
  all_goals first|exfalso;simp at*;done|exact QeH 4 .normal (.inl rfl) rfl rfl rfl rfl rfl rfl rfl
 ·rw[decide_eq_false hm] at hlook
  have hv:QaU out k=out++[k]:=by unfold QaU;rw[if_neg hm]
  rw[hv,Qpy,A3,AP]
  obtain⟨hy1,hy2,hnb⟩:x.getD k []≠[]/\k<x.length/\NodeB ((Qm x).getD k Qd):=by
   rcases Qe8 hx k with⟨_,h⟩|h
   ·exfalso;apply hk;unfold Qo;rw[h];rfl
   ·exact h
  obtain⟨y,hy⟩: ∃y,x[k]? =some y:=⟨_,A2 hy2⟩;have hyd:x.getD k []=y:=by rw[AC,hy];rfl
  have hr:=Qu (f:=fun x=>[QaO x]) hy;have hnx:=QeS (x:=x) k;rw[hyd] at hnx hy1;have e:QaO y= .pd (rNode (Qq y).1):=by unfold QaO;rw[if_neg hy1]
  rw[e] at hr;rw[AG,AR,Af,hnx];generalize (Qq y).1=N at*;clear hvl hx hk hm hv hnb hyd hy hnx hy1 e
  repeat' first|refine kS ?_|refine qS (QdL AS AH (z:= .bool false) (by kernel_rfl) rfl rfl rfl hlook) ?_|refine(Qh6 AS AH (kk:=?_))|refine qD (Qdq rfl) ?_|refine qD (iy hr) ?_|(show AWP _ (.region 3 _ _) _ _;refine(Fg.awp_drawF (id:=3) [] [12,13] ?_))|refine QuA Ty.h rfl Ty.h (hb:=?_) (kk:=?_)|refine kU ?_|fail
  all_goals first
   |(exfalso;simp at*;done)
   |(show((out.map fun k=>rNode ((Qm x).getD k Qd)).length+1)*80<=140737488355328
     rw[A4];omega)
   |(rw[A4]
     exact QeH 4 .normal (.inl rfl) rfl rfl rfl rfl rfl rfl rfl)
def Qci(names:List (List UInt8)):D:=if names=[] then .v (.slice none 0 0) else tStrs names
def QlL{n:Nat}(h:Pure P f [.sl c n []] x):Pure P f [.v (.slice none 0 0)] x:=by
 intro B σ S H w cargs hB hS hl hr;refine h B σ S H w cargs hB hS hl fun i d v hd hv=>?_
 match i,hd with
 |0,hd=>
  obtain rfl:=A1 hd;have:=hr 0 _ v rfl hv;cases this;exact .slnil _ _ _ _
def vg_mem(x:List (List UInt8))(out:List Nat)(N:Nat)(Lx:List AV)(Hr:List Blk)(g:AV)(hg:g∈Qcz out)(ha:AV.ptr 0 0 0∈Lx)(hb:AV.ptr 1 0 0∈Lx):g.ren (rho [0,1,2,3] N)∈Lx++(Qc6 x out++Hr).flatMap Blk.parts:=by
 simp only[Qcz,AE,AF,or_false] at hg;rcases hg with rfl|rfl|rfl|rfl
 ·exact A7 _ ha
 ·exact A7 _ hb
 ·exact A6 _ (by simp[Qc6,Blk.parts,AV.parts,AV.ren,rho])
 ·exact A6 _ (by simp[Qc6,Blk.parts,AV.parts,AV.ren,rho])
theorem bWalk(s:Pm.Store)(t:Pl.Tree)(x:List (List UInt8))(hx:Qcl x)(m:List (Int×D))(hm:QbV m (Qav s x)): ∀(n:Nat) (L:List Nat) (k:Nat) (names:List (List UInt8)) (out:List Nat),L.length<=n->Gr.FD (Qo (Qm x)) (Qcg s x) [k] L->
 names.length+L.length<=1000->(∀a∈names,a.length<=4)->out.length+L.length<=1000000->
 Does A0 27 [.d (.pd (rFiles s t x m)),.d (dI k),.d (Qci names),.fn (.func 121) [.ptr 0 0 0,.ptr 1 0 0,.d (.pd [.pd (rFiles s t x m)])]] (Qc6 x out) (Qcz out) (.tup []) (Qc6 x (Qae out L)):=by
 intro n;induction n with
 |zero=>
  intro L k names out h1 h2;obtain⟨L1,rfl,_⟩:=Qsn h2;simp at h1
 |succ n ih=>
  intro L k names out h1 h2 h3 h4 h5;obtain⟨L1,rfl,hfd,hk0⟩:=Qsn h2;simp only[AX] at h1 h3 h5;have hvl:=Qgw (k::L1) out;have dv:=bVisit s t x hx m (Qb1 names) out (by omega) k hk0
  obtain⟨dn,g0,hdn,cp,hcl⟩: ∃(dn:D) (g0:Nat),Qci names=dn/\Pure A0 56 [dn] (dS (Qb1 names))/\Does A0 57 [.d dn] [] [] (.osl 0 g0 0 names.length) [.arr g0 1 9 (names.map fun s=>[dS s])]:=by
   have cp:=Qj8 names (by omega) (fun a ha=>by have:=h4 a ha;omega)
   by_cases hn:names=[]
   ·subst hn
    exact⟨_,0,rfl,QlL cp,Qm7⟩
   ·exact⟨tStrs names,1,by unfold Qci;rw[if_neg hn],cp,Qm6 names (by omega) hn⟩
  rw[hdn];clear hdn;obtain⟨hE,hgt⟩:=hm (k:Nat) (by omega);have hle:=QiE out k;refine kL ?hpin fun gvs=>?_
  case hpin=>exact QuU x out _ hvl.1 hvl.2.2
  simp only[parA,gslot,AB,Nat.reduceAdd];rw[QfE];clear hvl h2 hk0;have hvm:=fun(out:List Nat) (N:Nat)=>vg_mem x out N
  generalize QaU out k=out1 at*
  have hg:mget m (k:Nat)=some (.sl true 2 ((Qav s x (k:Nat)).map rEnt))∨mget m (k:Nat)=none/\(Qav s x (k:Nat)).map rEnt=[]:=by
   rcases hgt with h|⟨h1,h2⟩
   ·exact .inl h
   ·exact .inr ⟨h1,by rw[h2];rfl⟩
  generalize Qav s x (k:Nat)=es at*;generalize Qb1 names=pt at*;clear hgt;have hes:es.length<=12:=by have:=hE;unfold Qaa at this;rw[A5,decide_eq_true_eq] at this;exact this.2
  refine QeM ?_;simp only[Qc6,Qcz] at dv⊢
  repeat' first|refine kS ?_|refine(QfA [0,1,2,3] dv cK (hgl:=fun g hg=>hvm _ _ _ [] g hg (by simp[AV.parts,go_sem]) (by simp[AV.parts,go_sem])) (k:=?_))|refine qS (Qdq rfl) ?_|refine qS (Qfd Ag AH (by kernel_rfl) rfl rfl hg) ?_|refine kU ?_|fail
  refine Qs (fun mm st=> ∃(j:Nat) (Ld Lr:List Nat),j<=es.length/\mm=es.length -j/\Am (L1=Ld++Lr)/\Am (Gr.FD (Qo (Qm x)) (Qcg s x) ((es.drop j).map fun e=>e.2.toNat) Lr)/\
   st=⟨39,[(21,.d (tEnts es)),(22,.d (dI es.length)),(23,.d (dI j)),(0,.d (.pd (rFiles s t x m))),(2,.d dn),(3,.fn (.func 121) [.ptr 0 0 0,.ptr 1 0 0,.d (.pd [.pd (rFiles s t x m)])]),(1000000,.gh [.ptr 0 0 0,.ptr 1 0 0,.mp 2 0,.osl 3 out.length 0 out.length] gvs)],
    [.row 0 [.mp 2 0],.row 0 [.osl 3 (Qae out1 Ld).length 0 (Qae out1 Ld).length],.mp 0 (imap (Qcc (Qae out1 Ld))),.arr (Qae out1 Ld).length 10 48 ((Qae out1 Ld).map fun k=>rNode ((Qm x).getD k Qd))]⟩)
   [21,22,23,0,2,3,1000000] 4 es.length ⟨0,[],L1,by omega,rfl,Pm.hid rfl,Pm.hid hfd,by simp[keepE,go_sem,Qae]⟩ (round:=?_)
  rintro mm st ⟨j,Ld,Lr,hj,rfl,hL,hF,rfl⟩
  repeat refine kG ?_
  cases q3:decide ((j:Int)<(es.length:Int))
  ·have hje:j=es.length:=by simp at q3;omega
   have hLd:L1=Ld:=by
    have h:=hF.out;rw[hje,Aj] at h;cases h;rw[hL.out,AD]
   clear dv hcl cp ih hvm;subst hLd
   repeat refine kA ?_
   exact QeH 4 .normal (.inl rfl) rfl rfl rfl rfl rfl rfl rfl
  have hj2:j<es.length:=by simp at q3;omega
  obtain⟨e,he⟩: ∃e,es[j]? =some e:=⟨_,A2 hj2⟩;have hr:=Qu (f:=rEnt) he;have heb:=ent_b hE e (A9 he);have hdr:es.drop j=e::es.drop (j+1):=by rw[AT hj2,(AU.1 he).2]
  have hF2:=hF.out;rw[hdr,AR] at hF2;obtain⟨M,R,rfl,hM,hR⟩:=Qsp hF2;obtain⟨nmE,id⟩:=e;simp only at heb hM;obtain⟨kid,rfl⟩:=AL (show 0<=id by omega);rw[AM] at hM;have hLl:=congrArg Ar hL.out;simp only[A3] at hLl;have hvl:=Qgw Ld out1
  have h4': ∀a∈names++[nmE],a.length<=4:=fun a ha=>by
   rcases An.1 ha with h|h
   ·exact h4 a h
   ·rw[AA.1 h];exact QdQ heb.1
  have ih2:=ih M kid (names++[nmE]) (Qae out1 Ld) (by omega) hM (by simp;omega) h4' (by omega);have hnm:Qci (names++[nmE])=tStrs (names++[nmE]):=by unfold Qci;rw[if_neg (by simp)]
  rw[hnm,<-Qps] at ih2
  replace hR:=Pm.hid hR
  clear he hdr hF2 hF hM ih hnm dv cp hvl h4 h4';have hL2:Am (L1=(Ld++M)++R):=Pm.hid (by rw[AN];exact hL.out);clear hL hLl hfd;generalize ho3:Qae out1 (Ld++M)=o3 at*;generalize Qae out1 Ld=o2 at*;simp only[Qc6,Qcz] at ih2
  repeat' first|refine kS ?_|refine qS (iy hr) ?_|(show AWP _ (.region 4 _ _) _ _;refine(Qa 4 (h:=Fg.awp_drawF (id:=4) [0,1,2,3,5,6,7,9] [4,8,10] ?_)))|refine(Fg.aw_fltL (hl:=fun H=>Qd8 Ty.h rfl Ty.h) (k:=?_))|refine(Qh7 [] hcl cK (x':= .osl 5 g0 0 names.length) (hX:=fun _ h=>h) (H':=[.row 0 [.mp 2 0],.row 0 [.osl 3 o2.length 0 o2.length],.mp 0 (imap (Qcc o2)),.arr o2.length 10 48 (o2.map fun k=>rNode ((Qm x).getD k Qd)),.row 1 [],.arr g0 1 9 (names.map fun s=>[dS s])]) (hH:=fun _ h=>h) (k:=?_))|refine(Qi9 Ty.h rfl Ty.h (hcell:=?_) (hb:=?_) (kk:=?_))|refine(QmB 5 [0,1,2,3] ih2 cK (H':=[.row 0 [.mp 2 0],.row 0 [.osl 3 o3.length 0 o3.length],.mp 0 (imap (Qcc o3)),.arr o3.length 10 48 (o3.map fun k=>rNode ((Qm x).getD k Qd)),.row 1 [],.arr (g0+1+1) 1 9 []]) (hH:=?_) (hargs:=?_) (hgl:=?_) (k:=?_))|refine kU ?_|fail
  ·intro r hr d hd
   obtain rfl:=AA.1 hr;obtain rfl:=AA.1 hd;rfl
  ·show((names.map fun s=>[dS s]).length+1)*16<=140737488355328
   rw[A4];omega
  ·have htk:((names.map fun s=>[dS s])++[[dS nmE]]).take ((names.map fun s=>[dS s]).length+[[dS nmE]].length)=(names++[nmE]).map fun s=>[dS s]:=by
    rw[A8 (by simp),AG];rfl
   exact congrArg (fun r=>[AV.d (.pd (rFiles s t x m)),AV.d (dI (kid:Nat)),AV.d (.sl true 1 r),AV.fn (.func 121) [.ptr 0 0 0,.ptr 1 0 0,.d (.pd [.pd (rFiles s t x m)])]]) htk
  ·exact fun g hg=>hvm _ _ _ [_,_] g hg (by simp[AV.parts,go_sem]) (by simp[AV.parts,go_sem])
  ·intro R hR;exact hR
  skip
  all_goals first
   |(refine Qn (es.length -(j+1)) (by omega) ⟨j+1,Ld++M,R,by omega,rfl,hL2,hR,?_⟩
     rw[ho3]
     simp[keepE,go_sem];done)
def Qal(s:Pm.Store)(x:List (List UInt8))(p:List UInt8):Int:=match Qz p with|none=> -1|some q=>(Qbt (Qav s x) 0 q).getD (-1)
abbrev QcZ(x:List (List UInt8))(M:List Nat):List (List D):=M.map fun k=>rNode ((Qm x).getD k Qd)
theorem QkM{dst:Option Tmp}{ty:TypeId}{pos:String}{after:Array Edge}{gd:Option (Nat×Bool)}{env:List (Nat×AV)}{H:List Blk}{fn:Fn}{u1 u2 u3:Operand}{a b c:AV}(h1:aval env u1=a)(h2:aval env u2=b)(h3:aval env u3=c):
 Loc P ⟨dst,.makeFunc fn #[] #[u1,u2,u3],ty,pos,after,gd⟩ env H (.fn fn [a,b,c]) none:=by
 subst h1;subst h2;subst h3;exact Qgi
def vg_mem0(Lx:List AV)(Hx:List Blk)(g:AV)(hg:g∈Qcz [])(ha:AV.ptr 4 0 0∈Lx)(hb:AV.ptr 1 0 0∈Lx)(hc:AV.mp 3 0∈Hx.flatMap Blk.parts)(hd:AV.osl 2 0 0 0∈Hx.flatMap Blk.parts)(N:Nat):g.ren (rho [4,1,3,2] N)∈Lx++Hx.flatMap Blk.parts:=by
 simp only[Qcz,AE,AF,or_false] at hg;rcases hg with rfl|rfl|rfl|rfl
 ·exact A7 _ ha
 ·exact A7 _ hb
 ·exact A6 _ hc
 ·exact A6 _ hd
def Qu8(s:Pm.Store)(t:Pl.Tree)(x:List (List UInt8))(m:List (Int×D))(hm:QbV m (Qav s x))(p:List UInt8)(hp:p.length<=1000000000000)(hat:Qal s x p<0):
 Pure A0 67 [.pd (rFiles s t x m),dS p] (.tup [.sl true 10 [],dB false]):=by
 have c:Pure A0 20 [.pd (rFiles s t x m),dS p] (dI (Qal s x p)):=by unfold Qal;exact bPath s t x m _ hm p hp
 generalize Qal s x p=at_ at*;refine kE ?_;refine Qa 0 (h:=?_)
 repeat' first|refine kS ?_|refine stepS2 (Qez) (k:=?_)|refine kU ?_|refine kV ?_ ?_<;>intro q|fail
 all_goals first
  |(exfalso;simp only[decide_eq_false_iff_not] at*;omega)
  |(refine Qd7 4 true 10 (h:=?_)
    exact Qb (hx:=rfl))
def Qtb(s:Pm.Store)(t:Pl.Tree)(x:List (List UInt8))(hx:Qcl x)(m:List (Int×D))(hm:QbV m (Qav s x))(p:List UInt8)(hp:p.length<=1000000000000)(j:Nat)(hat:Qal s x p=j)(L:List Nat)(hL:L.length<=1000)(hfd:Gr.FD (Qo (Qm x)) (Qcg s x) [j] L):
 Pure A0 67 [.pd (rFiles s t x m),dS p] (.tup [.sl true 10 (QcZ x (Qae [] L)),dB true]):=by
 have c:Pure A0 20 [.pd (rFiles s t x m),dS p] (dI (Qal s x p)):=by unfold Qal;exact bPath s t x m _ hm p hp
 rw[hat] at c;have dw:=bWalk s t x hx m hm L.length L j [] [] (AK _) hfd (by simpa using hL) (fun a ha=>by simp at ha) (by simp;omega);have hgl:=vg_mem0;rw[show Qci []= .v (.slice none 0 0) by unfold Qci;rw[if_pos rfl]] at dw;generalize Qae [] L=M at*;clear hfd hL;simp only[Qc6,Qcz] at dw;refine kE ?_;refine Qa 0 (h:=?_)
 repeat' first|refine kS ?_|refine stepS2 (Qez) (k:=?_)|refine(Qlu 1 0 10 48 (h:=?_))|refine qS (QkM rfl rfl rfl) ?_|refine(Qf9 [4,1,3,2] dw cK (hgl:=fun g hg=>hgl _ _ g hg (by simp[AV.parts,go_sem]) (by simp[AV.parts,go_sem]) (by simp[Blk.parts,AV.parts]) (by simp[Blk.parts,AV.parts]) _) (k:=?_))|refine kU ?_|fail
 all_goals first|exfalso;simp only[decide_eq_true_eq] at*;omega|skip
 refine Qel [4,5] 3 (h:=?_);refine Qa 2 (h:=?_);refine Qb (hx:=?_);rw[A8 (by simp)]
def QcJ(s:Pm.Store):Prop:= ∀n,QL n=true->n.kind=1->Pure A0 89 [.pd (rSt s),dNode n] (.tup [.any,dB (Qa0 s n)])
def Qcq(s:Pm.Store)(t:Pl.Tree):D:=if QO s then QbH s t else .tup [.v (.pointer none),dB false]
def Qln(s:Pm.Store)(t:Pl.Tree)(cS:Pure A0 42 [dSt s] (dB (QO s)))(hg:QO s=true->QM s/\0<=s.2.2.1)(hT:QO s=true->QcJ s):
 Pure A0 19 [dSt s,dTree t] (Qcq s t):=by
 unfold Qcq;cases h:QO s
 ·rw[h] at cS
  rw[if_neg (by simp)];refine kE ?_;refine Qa 0 (h:=?_);refine Qa 1 (h:=?_)
  repeat refine kA ?_
  exact Qb (hx:=rfl)
 ·rw[h] at cS
  rw[if_pos rfl];have c:=Qqn s (hg h).1 (hg h).2 t (hT h);obtain⟨a,b,hab⟩: ∃a b,QbH s t= .tup [a,b]:=by unfold QbH;split<;>exact⟨_,_,rfl⟩
  rw[hab] at c⊢;clear hab hg hT;refine kE ?_;refine Qa 0 (h:=?_);refine Qa 1 (h:=?_)
  repeat refine kA ?_
  exact Qb (hx:=rfl)
def Qbm(F:Qi->Int)(N:List Qi):Int:=(N.map F).sum
def Qc7(s:Pm.Store)(t:Pl.Tree)(p:List UInt8)(F:Qi->Int)(M:List Nat):Int×Bool:=
 if QO s&&Qb8 s t&&QbJ s (Qc s t) then(if Qal s (Qc s t) p<0 then(0,false) else(Qbm F (M.map fun k=>(Qm (Qc s t)).getD k Qd),true)) else(0,false)
theorem Qp1{S:Nat->Prop}{w:Al}{b:Bool}{l:List Pl.Ptr}{v:AZ}(h:RelD S w (.sl b 5 (l.map rPtr)) v)(hS: ∀b,S b->b<w.heap.size)(hx: ∀x∈l,Pm.PtrIn x):
 ∃A c,v= .slice A l.length c/\Pm.At w w.heap.size A l:=by
 generalize hr:l.map rPtr=rows at h;cases h with
 |slnil a cap=>
  have:l=[]:=by simp_all
  subst this;exact⟨_,_,rfl,fun h=>absurd h (by simp)⟩
 |sl _ _ _ bb o cap g hb hn hcap hc hrr=>
  subst hr;refine⟨_,_,by rw[A4],fun _=>⟨bb,o,rfl,hS bb hb,fun i x hi=>⟨Pm.ptrL x,⟨rfl,hx x (A9 hi)⟩,fun j v hj=>?_⟩⟩⟩;have h1:(l.map rPtr)[i]? =some (rPtr x):=by grind
  have key: ∀(j:Nat) u,(rPtr x)[j]? =some (.v u)->w.cell? ⟨bb,o+i*5+j,none⟩=some u:=fun j u hu=>by
   have h2:=hc i j _ _ h1 hu;have h3:=hrr i j _ _ h1 hu;generalize g i j=y at*;cases h3;exact h2
  match j,hj with
  |0,hj=>obtain rfl:=A1 hj;exact key 0 _ rfl
  |1,hj=>obtain rfl:=A1 hj;exact key 1 _ rfl
  |2,hj=>obtain rfl:=A1 hj;exact key 2 _ rfl
  |3,hj=>obtain rfl:=A1 hj;exact key 3 _ rfl
  |4,hj=>obtain rfl:=A1 hj;exact key 4 _ rfl
structure AtW(B:Bs)(σ:Sg)(S:Nat->Prop)(H:List Blk)(w:Al)(s:Pm.Store)(a:AZ):Prop where
 gd:Gd B
 sm:Sm B σ S H w
 st:RelD S w (.pd (rSt s)) a
theorem AtW.call{B:Bs}{σ:Sg}{S:Nat->Prop}{H:List Blk}{w wk:Al}{s:Pm.Store}{a:AZ}(h:AtW B σ S H w s a)(hb:AI w.heap.size w wk)(vs:List AZ)(hp:Pure A0 f (.pd (rSt s)::args) x)(ha:args=vs.map D.ofV):
 Aa A0 f (a::vs).toArray wk fun e w'=> ∃v,e= .returned v/\AI wk.heap.size wk w'/\RelD (fun b=>b<w'.heap.size) w' x v:=by
 have hs:=h.sm.below hb;subst ha;refine(hp B σ _ H wk (a::vs) h.gd hs.1 (by simp) fun i d v hd hv=>?_).mono fun e w' ⟨v,h1,h2,h3⟩=>⟨v,h1,h2,h3.mono (fun b hb=>?_) fun _ _=>rfl⟩
 ·match i,hd,hv with
  |0,hd,hv=>
   obtain rfl:=A1 hd;obtain rfl:=A1 hv;exact h.st.mono (fun b hb=> .inl hb) fun b hb'=>hb.block b ((h.sm.sUp b hb').1)
  |i+1,hd,hv=>
   rw[List.getElem?_cons_succ] at hd hv;rw[AO,hv] at hd;obtain rfl:=A1 hd;exact D.ofV_rel _ _ _
 ·have:=h2.size
  rcases hb with hb|hb
  ·have:=(hs.1.sUp b hb).1;omega
  ·exact hb.2
theorem AtW.call0{B:Bs}{σ:Sg}{S:Nat->Prop}{H:List Blk}{w wk:Al}{s:Pm.Store}{a:AZ}(h:AtW B σ S H w s a)(hb:AI w.heap.size w wk)(vs:List AZ)(hp:Pure A0 f args x)(ha:args=vs.map D.ofV):
 Aa A0 f vs.toArray wk fun e w'=> ∃v,e= .returned v/\AI wk.heap.size wk w'/\RelD (fun b=>b<w'.heap.size) w' x v:=by
 have hs:=h.sm.below hb;subst ha;refine(hp B σ _ H wk vs h.gd hs.1 (by simp) fun i d v hd hv=>?_).mono fun e w' ⟨v,h1,h2,h3⟩=>⟨v,h1,h2,h3.mono (fun b hb=>?_) fun _ _=>rfl⟩
 ·rw[AO,hv] at hd
  obtain rfl:=A1 hd;exact D.ofV_rel _ _ _
 ·have:=h2.size
  rcases hb with hb|hb
  ·have:=(hs.1.sUp b hb).1;omega
  ·exact hb.2
def rel_v{S:Nat->Prop}{w:Al}{x v:AZ}(h:RelD S w (.v x) v):v=x:=by cases h;rfl
def QkD{S:Nat->Prop}{w:Al}{y:D}{v:AZ}(h:RelD S w (.tup [x,y]) v): ∃a b,v= .tuple #[a,b]/\RelD S w x a/\RelD S w y b:=by
 cases h with
 |tup _ cs hl h=>
  match cs,hl with
  |[a,b],_=>exact⟨a,b,rfl,h 0 _ _ rfl rfl,h 1 _ _ rfl rfl⟩
variable{B:Bs}{σ:Sg}{S:Nat->Prop}{H:List Blk}{w wk:Al}{s:Pm.Store}{a:AZ}
def nodeV(n:Qi):AZ:= .agg #[.int .i64 n.kind,.int .i64 n.links,.int .i64 n.size,.int .i64 n.tree.root.pat,.int .i64 n.tree.root.birth,.int .i64 n.tree.root.size,.int .i64 n.tree.root.sum,.int .i64 n.tree.root.level,.int .i64 n.tree.depth,.int .i64 n.tree.many]
def cNodeOk(h:AtW B σ S H w s a)(hb:AI w.heap.size w wk)(n:Qi):Aa A0 144 #[nodeV n] wk fun e w'=>e= .returned (.bool (QL n))/\AI wk.heap.size wk w':=
 (h.call0 hb [nodeV n] (bNodeOk n) rfl).mono fun _ _ ⟨_,h1,h2,h3⟩=>⟨by rw[h1,rel_v h3],h2⟩
def cLeaves(h:AtW B σ S H w s a)(hb:AI w.heap.size w wk)(hg:QM s)(htx:0<=s.2.2.1)(t:Pl.Tree)(hin: ∀p∈(QV s t).1,Pm.PtrIn p):Aa A0 110 #[a,.agg (Pm.treeL t).toArray] wk fun e w'=>
 ∃A c,e= .returned (.tuple #[.slice A (QV s t).1.length c,.bool (QV s t).2])/\AI wk.heap.size wk w'/\Pm.At w' w'.heap.size A (QV s t).1:=
 (h.call hb [.agg (Pm.treeL t).toArray] (bLeaves s hg htx t) rfl).mono fun _ _ ⟨_,h1,h2,h3⟩=>by
   obtain⟨x,y,rfl,hx,hy⟩:=QkD h3;obtain⟨A,c,rfl,hA⟩:=Qp1 hx (fun _ hb=>hb) hin;exact⟨A,c,by rw[h1,rel_v hy],h2,hA⟩
def cRead(h:AtW B σ S H w s a)(hb:AI w.heap.size w wk)(hg:QM s)(p:Pl.Ptr)(hp:Pl.ptrHole p=false->Pl.ptrOk p=true):Aa A0 111 #[a,.agg (Pm.ptrL p).toArray] wk fun e w'=>
 e= .returned (.tuple #[.string ⟨(Qj s.1 p).1.toArray⟩,.bool (Qj s.1 p).2])/\AI wk.heap.size wk w':=
 (h.call hb [.agg (Pm.ptrL p).toArray] (bRead s hg p hp) rfl).mono fun _ _ ⟨_,h1,h2,h3⟩=>by
   obtain⟨x,y,rfl,hx,hy⟩:=QkD h3;exact⟨by rw[h1,rel_v hx,rel_v hy],h2⟩
def Qqf(h:AtW B σ S H w s a)(hb:AI w.heap.size w wk)(size:Int)(k:Nat)(h0:0<=size)(h1:size<=2048)(hk:k<=100):Aa A0 146 #[.int .i64 size,.int .i64 k] wk fun e w'=>e= .returned (.int .i64 (QbI size k))/\AI wk.heap.size wk w':=
 (h.call0 hb [.int .i64 size,.int .i64 k] (Qqo size k h0 h1 hk) rfl).mono fun _ _ ⟨_,h1,h2,h3⟩=>⟨by rw[h1,rel_v h3],h2⟩
def Qqg(h:AtW B σ S H w s a)(hb:AI w.heap.size w wk)(x:List UInt8)(n:Int)(hx:x.length<=1000000):Aa A0 145 #[.string ⟨x.toArray⟩,.int .i64 n] wk fun e w'=>
 e= .returned (.tuple #[.string ⟨(QbP x n).1.toArray⟩,.bool (QbP x n).2])/\AI wk.heap.size wk w':=
 (h.call0 hb [.string ⟨x.toArray⟩,.int .i64 n] (Qqp x n hx) rfl).mono fun _ _ ⟨_,h1,h2,h3⟩=>by
   obtain⟨y,z,rfl,hy,hz⟩:=QkD h3;exact⟨by rw[h1,rel_v hy,rel_v hz],h2⟩
def Qqh(x p:List UInt8)(hx:x.length<=1000000)(wk:Al):Aa A0 147 #[.string ⟨x.toArray⟩,.string ⟨p.toArray⟩] wk fun e w'=>e= .returned (.bool (p.isSuffixOf x))/\AI wk.heap.size wk w':=
 (Tryz.strings_HasSuffix ⟨x.toArray⟩ ⟨p.toArray⟩ wk (by rw[Pm.Qj7];omega)).mono fun e w' h=>⟨h.1,h.2▸Below.refl _ _⟩
theorem Qgn(s:Pm.Store)(t:Pl.Tree):(Qb8 s t&&QbJ s (Qc s t))=Qaf s t:=by
 rw[Bool.eq_iff_iff,Qfa];have hnl:(Qe s t).length=(Qc s t).length:=by unfold Qe;grind
 rw[A5];unfold Qb8 QbJ Qcp Qcg;rw[A5,A5,decide_eq_true_eq,AQ]
 have hk2: ∀k,Qo (Qe s t) k=2↔((Qe s t).getD k Qd).kind=2:=fun k=>by
  have:=Qej (nsOk s t) k;unfold Qo;omega
 have hk1: ∀k,Qo (Qe s t) k=1↔((Qe s t).getD k Qd).kind=1:=fun k=>by
  have:=Qej (nsOk s t) k;unfold Qo;omega
 show((Qao s t=true/\Qo (Qe s t) 0=2)/\ ∀k∈AY (Qc s t).length,Qap s (Qc s t) k=true)/\_↔_;rw[<-hnl];constructor
 ·rintro⟨⟨⟨h1,h2⟩,h3⟩,h4⟩
  have hG: ∀k,Qo (Qe s t) k≠0->Qap s (Qc s t) k=true:=fun k hk=>h3 k (Ab.2 (Qd9 hk))
  refine⟨h1,(hk2 0).1 h2,fun k hk=>?_,fun k hk=>?_,?_⟩
  ·have h:=hG k (by grind)
   have e:Qo (Qm (Qc s t)) k=1:=(hk1 k).2 hk;unfold Qap at h;rw[e] at h;show Qa0 s ((Qm (Qc s t)).getD k Qd)=true
   grind
  ·have h:=hG k (by grind)
   have e:Qo (Qm (Qc s t)) k=2:=(hk2 k).2 hk;unfold Qap at h;rw[e] at h;show(Qf s ((Qm (Qc s t)).getD k Qd)).2=true
   grind
  ·cases hb:Gr.bfs (Qo (Qm (Qc s t))) (Gr.chOf (QaL (Qm (Qc s t)) (Qf s))) (1+Gr.left (Qo (Qm (Qc s t))) (Qe s t).length []) [0] [] with
   |none=>grind
   |some nm=>
    rw[hb] at h4;simp only[AQ,Ab] at h4;refine⟨nm,hb,fun k hk0 hk=>?_⟩;have:=h4 k (Qd9 hk);rw[AJ,AJ,decide_eq_true_eq,decide_eq_true_eq,decide_eq_true_eq] at this;rcases this with(h|h)|h
    ·omega
    ·exact absurd h hk
    ·exact h
 ·rintro⟨h1,h2,h3,h4,nm,h5,h6⟩
  refine⟨⟨⟨h1,(hk2 0).2 h2⟩,fun k _=>?_⟩,?_⟩
  ·unfold Qap
   have hc:=Qej (nsOk s t) k;rcases hc with hc|hc|hc
   ·have e:Qo (Qm (Qc s t)) k=0:=by show((Qe s t).getD k Qd).kind.toNat=0;omega
    rw[e];rfl
   ·have e:Qo (Qm (Qc s t)) k=1:=(hk1 k).2 hc
    have this:Qa0 s ((Qm (Qc s t)).getD k Qd)=true:=h3 k hc
    grind
   ·have e:Qo (Qm (Qc s t)) k=2:=(hk2 k).2 hc
    have this:(Qf s ((Qm (Qc s t)).getD k Qd)).2=true:=h4 k hc
    grind
  ·rw[show Gr.bfs (Qo (Qm (Qc s t))) (Gr.chOf (QaL (Qm (Qc s t)) (Qf s))) (1+Gr.left (Qo (Qm (Qc s t))) (Qe s t).length []) [0] []=some nm from h5]
   simp only[AQ,Ab];intro k _;rw[AJ,AJ,decide_eq_true_eq,decide_eq_true_eq,decide_eq_true_eq]
   by_cases hk0:k=0
   ·omega
   ·by_cases hk:Qo (Qm (Qc s t)) k=0
    ·omega
    ·exact .inr (h6 k hk0 hk)
def QiQ(s:Pm.Store)(t:Pl.Tree)(p:List UInt8):Qal s (Qc s t) p=match Qz p with|none=> -1|some q=>(Qah s (Qe s t) 0 q).getD (-1):=by
 unfold Qal;cases Qz p with
 |none=>rfl
 |some q=>
  simp only;unfold Qah;rw[<-Qn7];rfl
theorem Qoc(F:Nat->Int)(n:Nat): ∀(m:Nat) (V:List Nat),V.length=m->V.Nodup->(∀k∈V,k<n)->(V.map F).sum=Qa6 (fun k=>if k∈V then F k else 0) n
 |0,V,hm,_,_=>by
  obtain rfl:=List.length_eq_zero_iff.1 hm
  have: ∀n,Qa6 (fun k=>if k∈([]:List Nat) then F k else 0) n=0:=fun n=>by
   induction n with
   |zero=>rfl
   |succ n ih=>unfold Qa6;grind
  grind
 |m+1,V,hm,hV,hlt=>by
  rcases List.eq_nil_or_concat V with rfl|⟨W,a,rfl⟩
  ·simp at hm
  ·rw[List.concat_eq_append] at*
   rw[List.nodup_append] at hV;have ha:a∉W:=fun h=>hV.2.2 a h a (by simp) rfl
   rw[QiI ha,if_pos (hlt a (by simp)),AG,List.sum_append,Qoc F n m W (by grind) hV.1 (fun k hk=>hlt k (by simp[hk]))];simp
theorem Qvf{kind:Nat->Nat}{ch:Nat->Option (List Nat)}: ∀{es L:List Nat} {e:Nat},Gr.FD kind ch es L->e∈es-> ∃M,Gr.FD kind ch [e] M/\M.length<=L.length
 |[],_,_,_,h=>by cases h
 |k::es,L,e,h,hm=>by
  obtain⟨M,R,rfl,h1,h2⟩:=Qsp h;rcases AE.1 hm with rfl|hm
  ·grind
  ·obtain⟨M',g1,g2⟩:=Qvf h2 hm
   grind
theorem QoC{s:Pm.Store}{x:List (List UInt8)}: ∀{q:List (List UInt8)} {i j:Int} {L:List Nat},0<=i->Gr.FD (Qo (Qm x)) (Qcg s x) [i.toNat] L->Qbt (Qav s x) i q=some j-> ∃M,Gr.FD (Qo (Qm x)) (Qcg s x) [j.toNat] M/\M.length<=L.length
 |[],i,j,L,_,h,hf=>by rw[Qsl] at hf;grind
 |n::q,i,j,L,hi,h,hf=>by
  rw[QhO] at hf;obtain⟨L1,rfl,h1,_⟩:=Qsn h;rw[show((i.toNat:Nat):Int)=i by omega] at h1;cases he:(Qav s x i).find? (fun e=>e.1==n) with
  |none=>grind
  |some e=>
   rw[he] at hf;have hm:=List.mem_of_find?_eq_some he;obtain⟨M,g1,g2⟩:=Qvf h1 (Ae.2 ⟨e,hm,rfl⟩);have hb:=ent_b (Qsw s x i) e hm;obtain⟨M',g3,g4⟩:=QoC (by omega) g1 hf
   grind
theorem Qtz(s:Pm.Store)(t:Pl.Tree)(p:List UInt8)(F G:Qi->Int)(hFG: ∀n:Qi,n.kind=1∨n.kind=2->F n=G n): ∃L:List Nat,
 (QO s=true->Qb8 s t=true->QbJ s (Qc s t)=true-> ¬Qal s (Qc s t) p<0->L.length<=1000/\Gr.FD (Qo (Qm (Qc s t))) (Qcg s (Qc s t)) [(Qal s (Qc s t) p).toNat] L)/\
 Qc7 s t p F (Qae [] L)=Qab s t p G:=by
 unfold Qc7 Qab;have hl:=Qgn s t;rw[Bool.and_assoc,hl];have hp:=QiQ s t p;cases hq:Qz p with
 |none=>
  simp_all
 |some q=>
  rw[hq] at hp;have hp:Qal s (Qc s t) p=(Qah s (Qe s t) 0 q).getD (-1):=hp;simp only
  by_cases hF:(QO s&&Qaf s t)=true
  rotate_left
  ·refine⟨[],fun h1 h2 h3 _=>absurd (by grind) hF,?_⟩
   grind
  have hF0:=hF;rw[A5] at hF;have hFi:=(Qfa s t).1 hF.2;cases hj:Qah s (Qe s t) 0 q with
  |none=>
   simp_all
  |some j=>
   rw[hj] at hp;have hp:Qal s (Qc s t) p=j:=hp;rw[hp];have hj0:=Qi3 (As 0) hj;obtain⟨M,hM,hs⟩:=Qhe hFi hj;refine⟨M,fun _ _ _ _=>⟨?_,?_⟩,?_⟩
   ·have hOk:=hF.2
    unfold Qaf at hOk;simp only[A5,beq_iff_eq] at hOk;obtain⟨L,g1,g2,g3⟩:=Qg7 s hFi.root hOk.1.2;have hj':=hj;unfold Qah at hj';rw[<-Qn7] at hj';obtain⟨M',g4,g5⟩:=QoC (s:=s) (x:=Qc s t) (i:=0) (L:=L.map Prod.snd) (As 0) (show Gr.FD (Qo (Qe s t)) (Gr.chOf (QaL (Qe s t) (Qf s))) [0] _ from g1.fd) hj';rw[<-g4.unique hM] at g5
    grind
   ·exact hM
   ·rw[if_pos hF0,if_pos hF0,if_neg (by omega),hs]
    congr 1
    have hV:(Qae [] M).Nodup:=Qid List.nodup_nil;have hmem: ∀k,k∈Qae [] M↔k∈M:=fun k=>by rw[QhB];simp
    have hlt: ∀k∈Qae [] M,k<(Qe s t).length:=fun k hk=>by
     rcases hM.kinds k ((hmem k).1 hk) with h|h
     ·exact Qd9 (by omega)
     ·exact Qd9 (by omega)
    unfold Qbm;rw[Aq,Qoc _ (Qe s t).length _ _ rfl hV hlt];refine QeO fun k _=>?_
    simp only[hmem,Function.comp]
    by_cases hk:k∈M
    ·rw[if_pos hk,if_pos hk]
     have hkd:=hM.kinds k hk;show F ((Qe s t).getD k Qd)=G ((Qe s t).getD k Qd);have hc:=Qej (nsOk s t) k;unfold Qo at hkd
     grind
    grind
end Aw
end
section
open Go.RowKit
namespace Aw
open Pm
theorem bText(s:Pm.Store)(hg:QM s)(htx:0<=s.2.2.1)(hin: ∀t,∀p∈(QV s t).1,Pm.PtrIn p):QcJ s:=by
 intro n hno hk B σ S H w cargs hB hS hl hr
 match cargs,hl with
 |[a,b],_=>
 have h0:=hr 0 _ a rfl rfl;have h1:=hr 1 _ b rfl rfl
 obtain rfl:b=nodeV n:=by
  have:=Qf7 (l:=[dNode n]) (vs:=[nodeV n]) (cs:=[b]) rfl rfl (fun i d v hd hv=>hr (i+1) d v hd hv);simpa using this
 have HW:=hid (AtW.mk hB hS h0);have HL:=hid (hB.ltOf hS);clear hr h1 hB hS
 suffices h:Aa A0 89 #[a,nodeV n] w fun e w'=>(∃txt,e= .returned (.tuple #[.string txt,.bool (Qa0 s n)]))/\AI w.heap.size w w' by
  refine h.mono ?_;rintro e w' ⟨⟨txt,rfl⟩,hb⟩;refine⟨_,rfl,hb,.tup _ _ rfl fun i d v hd hv=>?_⟩
  match i,hd,hv with
  |0,hd,hv=>obtain rfl:=A1 hd;exact .any _
  |1,hd,hv=>obtain rfl:=A1 hd;obtain rfl:=A1 hv;exact .v _
 obtain⟨ad,rfl⟩: ∃ad,a= .pointer ad:=by cases h0;exact⟨_,rfl⟩
 clear h0;have Hnn:=hid hno;have Hf:=hid (QkY (s:=s) hno hk);obtain⟨kd,links,size,⟨⟨p1,p2,p3,p4,p5⟩,depth,many⟩⟩:=n;simp only at hk;subst hk
 have Hok1:Am (∀wk,AI w.heap.size w wk->Aa A0 144 #[.agg #[.int .i64 1,.int .i64 links,.int .i64 size,.int .i64 p1,.int .i64 p2,.int .i64 p3,.int .i64 p4,.int .i64 p5,.int .i64 depth,.int .i64 many]] wk fun e w'=>e= .returned (.bool true)/\AI wk.heap.size wk w'):=
  hid fun wk hb=>(cNodeOk HW.out hb ⟨1,links,size,⟨⟨p1,p2,p3,p4,p5⟩,depth,many⟩⟩).mono fun e w' h=>⟨by rw[h.1,Hnn.out],h.2⟩
 have Hlv:Am (∀wk,AI w.heap.size w wk->Aa A0 110 #[.pointer ad,.agg #[.int .i64 p1,.int .i64 p2,.int .i64 p3,.int .i64 p4,.int .i64 p5,.int .i64 depth,.int .i64 many]] wk fun e w'=>
  ∃A c,e= .returned (.tuple #[.slice A (QV s ⟨⟨p1,p2,p3,p4,p5⟩,depth,many⟩).1.length c,.bool (QV s ⟨⟨p1,p2,p3,p4,p5⟩,depth,many⟩).2])/\AI wk.heap.size wk w'/\Pm.At w' w'.heap.size A (QV s ⟨⟨p1,p2,p3,p4,p5⟩,depth,many⟩).1):=
  hid fun wk hb=>cLeaves HW.out hb hg htx ⟨⟨p1,p2,p3,p4,p5⟩,depth,many⟩ (hin _)
 clear Hnn;unfold nodeV
 go_enter Tryz.func89,Tryz.ntmps89
 go_wp2_with fail
 refine(Hok1.out _ (bnew _ _)).mono ?_;rintro e w1 ⟨rfl,hb1⟩
 have Hbx:Am (∀(j:Nat) v,([.int .i64 1,.int .i64 links,.int .i64 size,.int .i64 p1,.int .i64 p2,.int .i64 p3,.int .i64 p4,.int .i64 p5,.int .i64 depth,.int .i64 many]:List AZ)[j]? =some v->w1.cell? ⟨w.heap.size,j,none⟩=some v):=hid fun j v hv=>by
  rw[hb1.cell (by simp)];rw[cell_of_row _ _ j _ _ _ (Qeq _ _)];exact(List.getElem?_toArray ..).trans hv
 have Hb1:=hid (btr (bnew w _) hb1);have Hsz:Am (w.heap.size<w1.heap.size):=hid (by have:=hb1.size;simp at this;omega);clear hb1;have x0:=Hbx.out 0 _ rfl;have x3:=Hbx.out 3 _ rfl;have x4:=Hbx.out 4 _ rfl;have x5:=Hbx.out 5 _ rfl;have x6:=Hbx.out 6 _ rfl;have x7:=Hbx.out 7 _ rfl;have x8:=Hbx.out 8 _ rfl;have x9:=Hbx.out 9 _ rfl
 go_wp2_with fail
 refine(Hlv.out _ Hb1.out).mono ?_;rintro e w2 ⟨A,c,rfl,hb2,hA⟩;have Hb2:=hid (btr Hb1.out hb2);have HA2:=hid hA;have y2:=(hb2.cell (p:=⟨w.heap.size,2,none⟩) Hsz.out).trans (Hbx.out 2 _ rfl);have Hsz2:Am (w.heap.size<w2.heap.size):=hid (by have:=hb2.size;have:=Hsz.out;omega);clear x0 x3 x4 x5 x6 x7 x8 x9 Hbx Hsz Hb1 hA hb2 Hlv Hok1;cases ht:(Q8 s ⟨⟨p1,p2,p3,p4,p5⟩,depth,many⟩)
 ·have hlv:QV s ⟨⟨p1,p2,p3,p4,p5⟩,depth,many⟩=([],false):=by unfold QV;rw[ht];rfl
  have hfl:Am (Qa0 s ⟨1,links,size,⟨⟨p1,p2,p3,p4,p5⟩,depth,many⟩⟩=false):=hid (by rw[Hf.out,ht];rfl);clear Hf;rw[hlv]
  go_wp2
  go_ret2
  exact⟨⟨⟨#[]⟩,by rw[hfl.out];rfl⟩,Hb2.out⟩
 have hl2:(QV s ⟨⟨p1,p2,p3,p4,p5⟩,depth,many⟩).2=true:=by unfold QV;rw[if_pos ht]
 rw[ht] at Hf;have Hho:=hid (Qfe ht);have Hll:=hid (QeW ht);rw[hl2];clear hl2 ht;simp only at Hf Hll;generalize (QV s ⟨⟨p1,p2,p3,p4,p5⟩,depth,many⟩).1=ps at HA2 Hho Hll Hf⊢;obtain⟨fo,hfo⟩: ∃fo,Am (Qa0 s ⟨1,links,size,⟨⟨p1,p2,p3,p4,p5⟩,depth,many⟩⟩=fo):=⟨_,hid rfl⟩;rw[hfo.out] at Hf
 go_wp2_with fail
 go_loopw [34] (fun iv wr=> ∃(k:Nat) (txt:List UInt8),k<=ps.length/\iv= .int .i64 k/\Am (Bld w2.heap.size txt wr)/\txt.length<=12*k/\Am ((AY k).all (fun k=>Qb9 size k ((ps.map fun p=>(Qj s.1 p).1).getD k []))=true)/\Am (AI w2.heap.size w2 wr)) (fun iv _=>ps.length -(intOf iv).toNat)
 case atStart=>exact⟨0,[],by omega,rfl,hid (bldNew w2),by simp,hid rfl,hid (bnew _ _)⟩
 case round=>
  obtain⟨k,txt,hkl,rfl,HB,htl,HP,Hbel⟩:=hrel
  by_cases hlt:k<ps.length
  ·have hltI:(k:Int)<ps.length:=by omega
   obtain⟨bb,off,cs,rfl,hbb,hc,hv⟩:=(HA2.out.up Hbel.out).elem hlt;obtain⟨p,He⟩: ∃p,Am (p=ps[k]):=⟨ps[k],hid rfl⟩;rw[<-He.out] at hc;obtain⟨rfl,hpin⟩:=hc;have Hpk:=hid ((Hho.out p (by rw[He.out];exact List.getElem_mem hlt)).1)
   have Hx:Am ((ps.map fun p=>(Qj s.1 p).1).getD k []=(Qj s.1 p).1):=hid (by
    rw[AC,AO,A2 hlt,<-He.out];rfl)
   have Hrl:=hid (QiO s hg p);obtain⟨q1,q2,q3,q4,q5⟩:=p;have e0:=hv 0 _ rfl;have e1:=hv 1 _ rfl;have e2:=hv 2 _ rfl;have e3:=hv 3 _ rfl;have e4:=hv 4 _ rfl;simp only[Rep.size,Nat.add_zero] at e0 e1 e2 e3 e4;clear hv hbb hpin He
   go_wp2_with fail
   refine(cRead HW.out (btr (btr Hb2.out Hbel.out) (bnew _ _)) hg ⟨q1,q2,q3,q4,q5⟩ (fun _=>Hpk.out)).mono ?_;rintro e w3 ⟨rfl,hb3⟩;have Hb3:=hid (btr Hbel.out (btr (bnew _ _) hb3));have HB3:=hid (HB.out.below (btr (bnew _ _) hb3));have z2:=(Hb3.out.cell (p:=⟨w.heap.size,2,none⟩) Hsz2.out).trans y2;have Hfp:=Qjr hno rfl (k:=k) (by have:=Hll.out.1;simp only;omega);simp only at Hfp;have hT:Am (Qb9 size k (Qj s.1 ⟨q1,q2,q3,q4,q5⟩).1=true->(AY (k+1)).all (fun k=>Qb9 size k ((ps.map fun p=>(Qj s.1 p).1).getD k []))=true):=hid fun h=>Pl.Qdn (p:=fun k=>Qb9 size k ((ps.map fun p=>(Qj s.1 p).1).getD k [])) HP.out (by rw[Hx.out];exact h)
   have hF:Am (Qb9 size k (Qj s.1 ⟨q1,q2,q3,q4,q5⟩).1=false->fo=false):=hid fun h=>by
    rw[Hf.out,Bool.true_and];exact Pl.Qdj (p:=fun k=>Qb9 size k ((ps.map fun p=>(Qj s.1 p).1).getD k [])) hlt (by rw[Hx.out];exact h)
   clear hb3 e0 e1 e2 e3 e4 Hx HB y2;generalize (Qj s.1 ⟨q1,q2,q3,q4,q5⟩).2=rok at*;generalize (Qj s.1 ⟨q1,q2,q3,q4,q5⟩).1=x at*
   go_wp2_with fail
   refine(Qqf HW.out (btr Hb2.out Hb3.out) size k (by omega) (by omega) (by have:=Hll.out;omega)).mono ?_;rintro e w4 ⟨rfl,hb4⟩;have Hb4:=hid (btr Hb3.out hb4);have HB4:=hid (HB3.out.below hb4);clear hb4 HB3 z2
   go_wp2_with fail
   refine(Qqg HW.out (btr Hb2.out Hb4.out) x (QbI size k) (by have:=Hrl.out;omega)).mono ?_;rintro e w5 ⟨rfl,hb5⟩;have Hb5:=hid (btr Hb4.out hb5);have HB5:=hid (HB4.out.below hb5);clear hb5 HB4;have hpd:Qb9 size k x=((QbP x (QbI size k)).2&& !(([0]:List UInt8).isSuffixOf x)):=rfl;rw[hpd] at hT hF
   have hfl:(QbP x (QbI size k)).2=true->(QbP x (QbI size k)).1.length<=12:=fun h=>by
    unfold QbP at h⊢;split at h
    ·rename_i hc
     rw[if_pos hc];simp only[A5,decide_eq_true_eq,Pl.inR] at hc;simp only[A3,List.length_replicate];omega
    ·cases h
   clear hpd;generalize QbP x (QbI size k)=fl at*;obtain⟨full,fine⟩:=fl;simp only at hT hF hfl;cases fine
   ·have hff:=hid (hF.out rfl)
    clear hT hF hfl
    go_wp2
    go_ret2
    exact⟨⟨⟨#[]⟩,by rw[hfo.out,hff.out];rfl⟩,btr Hb2.out Hb5.out⟩
   ·have hfl:=hfl rfl
    go_wp2_with fail
    refine(Qqh x [0] (by have:=Hrl.out;omega) _).mono ?_;rintro e w6 ⟨rfl,hb6⟩;have Hb6:=hid (btr Hb5.out hb6);have HB6:=hid (HB5.out.below hb6);clear hb6 HB5;cases hsx:(([0]:List UInt8).isSuffixOf x)
    ·have hall:=hid (hT.out (by rw[hsx];rfl))
     clear hT hF
     go_wp2_with fail
     refine(bldStr HB6.out full (by have:=Hll.out;omega)).mono ?_;rintro e w7 ⟨rfl,hB7,hb7⟩;have HB7:=hid hB7;have Hb7:=hid (Hb6.out.trans hb7);clear hB7 hb7
     go_wp2_with fail
     go_roundw
     case rel=>exact⟨k+1,txt++full,by omega,by go_num,HB7,by simp only[A3];omega,hall,Hb7⟩
     case measure=>simp only[intOf];omega
    ·have hff:=hid (hF.out (by rw[hsx];rfl))
     clear hT hF
     go_wp2
     go_ret2
     exact⟨⟨⟨#[]⟩,by rw[hfo.out,hff.out];rfl⟩,btr Hb2.out Hb6.out⟩
  ·have hk':k=ps.length:=by omega
   have hff:Am (fo=true):=hid (by rw[Hf.out,<-hk',HP.out];rfl);have hltI: ¬(k:Int)<ps.length:=by omega
   go_wp2_with fail
   refine(bldText HB.out).mono ?_;rintro e w5 ⟨rfl,hb5⟩
   go_wp2
   go_ret2
   exact⟨⟨_,by rw[hfo.out,hff.out];rfl⟩,btr Hb2.out (Hbel.out.trans hb5)⟩
def QhM(s:Pm.Store)(t:Pl.Tree): ∀p∈(QV s t).1,Pm.PtrIn p:=fun p hp=>by
 cases ht:Q8 s t
 ·unfold QV at hp
  rw[ht] at hp;simp at hp
 ·have h:=Pl.QdC ((Qfe ht p hp).1)
  unfold Pm.PtrIn Pm.InI;omega
end Aw
end
section
open Go.RowKit
namespace Aw
attribute [local irreducible] ASeq ADraw AWP Loc mget mset AStep Fg.PlanF Fg.Flts
def Qcy(l:List Pl.Ptr):List Blk:=[.row 0 [.osl 1 l.length 0 l.length],.arr l.length 5 31 (l.map rPtr)]
def Qcx(l:List Pl.Ptr):List AV:=[.ptr 0 0 0,.osl 1 l.length 0 l.length]
theorem Qtl(l m:List Pl.Ptr): ∀i C,(Qcy l)[i]? =some C-> ∃C',(Qcy (l++m))[i]? =some C'/\pin1 (Qcx l) i C C':=by
 intro i C hC
 match i,hC with
 |0,hC=>obtain rfl:=A1 hC;exact⟨_,rfl,.inr ⟨rfl,0,by simp[Qcx]⟩⟩
 |1,hC=>
  obtain rfl:=A1 hC;refine⟨_,rfl,rfl,rfl,?_⟩;rcases m with _|⟨x,m⟩
  ·exact .inr ⟨by simp,by simp,0,l.length,by simp[Qcx]⟩
  grind
def Qtk(l:List Pl.Ptr)(N:Nat)(Lx:List AV)(Hr:List Blk)(g:AV)(hg:g∈Qcx l)(ha:AV.ptr 0 0 0∈Lx):g.ren (rho [0,1] N)∈Lx++(Qcy l++Hr).flatMap Blk.parts:=by
 simp only[Qcx,AE,AF,or_false] at hg;rcases hg with rfl|rfl
 ·exact A7 _ ha
 ·exact A6 _ (by simp[Qcy,Blk.parts,AV.parts,AV.ren,rho])
def Qm8(l:List Pl.Ptr)(hl:l.length<=1000)(p:Pl.Ptr):Does A0 61 [.d (dPtr p),.ptr 0 0 0] (Qcy l) (Qcx l) (.tup []) (Qcy (l++[p])):=by
 refine kL ?hpin fun gvs=>?_
 case hpin=>exact Qtl l [p]
 simp only[parA,gslot,AB,Qcy,Qcx];rw[A3,AP,AG,AR,Af];refine QeM ?_;refine kR ?_;refine Qa 2 (h:=?_)
 repeat' first|refine kS ?_|refine QU Ty.h rfl Ty.h (hb:=?_) (kk:=?_)|refine kU ?_|fail
 all_goals first
  |(show((l.map rPtr).length+1)*40<=140737488355328
    rw[A4];omega)
  |exact QeH 2 .normal (.inl rfl) rfl rfl rfl rfl rfl rfl rfl
  |(rw[A4]
    exact QeH 2 .normal (.inl rfl) rfl rfl rfl rfl rfl rfl rfl)
theorem bWalkP(s:Pm.Store)(hg:QM s): ∀(n:Nat) (p:Pl.Ptr) (l:List Pl.Ptr),Qcb s n p->l.length+(QQ s n p).length<=1000->n<=10->
 Does A0 60 [.d (.pd (rSt s)),.d (dPtr p),.d (dI n),.fn (.func 61) [.ptr 0 0 0]] (Qcy l) (Qcx l) (.tup []) (Qcy (l++QQ s n p)):=by
 intro n;induction n with
 |zero=>
  intro p l hs hlen _;have ch:=Qee p;have hmem:=fun(l:List Pl.Ptr) (N:Nat)=>Qtk l N
  have hpin:=Qtl l (QQ s 0 p);cases hh:Pl.ptrHole p;rotate_left
  ·rw[QdZ s _ hh] at hpin⊢
   rw[hh] at ch;rw[AD] at hpin⊢;refine kL ?hpin fun gvs=>?_
   case hpin=>exact hpin
   simp only[parA,gslot,AB,Nat.reduceAdd,Qcy,Qcx];refine QeM ?_;refine kR ?_;refine Qa 2 (h:=?_)
   repeat refine kA ?_
   all_goals first
    |(refine QfS ?_
      exact QeH 2 .ret (.inr rfl) rfl rfl rfl rfl rfl rfl rfl)
  ·have e:QQ s 0 p=[p]:=by unfold QQ;grind
   rw[e] at hpin hlen⊢;rw[hh] at ch;have dv:=Qm8 l (by omega) p;refine kL ?hpin fun gvs=>?_
   case hpin=>exact hpin
   simp only[parA,gslot,AB,Nat.reduceAdd];generalize l++[p]=l1 at*;clear hpin hlen e hh hs;refine QeM ?_;simp only[Qcy,Qcx] at dv⊢;refine kR ?_;refine Qa 2 (h:=?_)
   repeat' first|refine kS ?_|refine(QfA [0,1] dv cK (hgl:=fun g hg=>hmem _ _ _ [_] g hg (by simp[AV.parts,go_sem])) (k:=?_))|refine kU ?_|fail
   all_goals first|exact QeH 2 .normal (.inl rfl) rfl rfl rfl rfl rfl rfl rfl
 |succ n ih=>
  intro p l hs hlen hn;have ch:=Qee p;have hmem:=fun(l:List Pl.Ptr) (N:Nat)=>Qtk l N
  have hpin:=Qtl l (QQ s (n+1) p);cases hh:Pl.ptrHole p;rotate_left
  ·rw[QdZ s _ hh] at hpin⊢
   rw[hh] at ch;rw[AD] at hpin⊢;refine kL ?hpin fun gvs=>?_
   case hpin=>exact hpin
   simp only[parA,gslot,AB,Nat.reduceAdd,Qcy,Qcx];refine QeM ?_;refine kR ?_;refine Qa 2 (h:=?_)
   repeat refine kA ?_
   all_goals first
    |(refine QfS ?_
      exact QeH 2 .ret (.inr rfl) rfl rfl rfl rfl rfl rfl rfl)
  ·rcases hs with hs|⟨hok,_,hbi,hbo,hsub⟩
   ·grind
   have e:QQ s (n+1) p=p::(Qh s p (n+1:Nat)).1.flatMap (QQ s n):=by
    show(if Pl.ptrHole p then [] else p::(Qh s p (n+1:Nat)).1.flatMap (QQ s n))=_
    grind
   have cf:=bFanOf s hg p (fun _=>hok) (n+1:Nat);rw[(Qjt hok hbi).2 hbo,hbo] at cf;have hfl:=QeF s p (n+1:Nat);generalize (Qh s p (n+1:Nat)).1=fan at*;rw[e] at hpin hlen⊢;rw[hh] at ch;simp only[AX] at hlen;have dv:=Qm8 l (by omega) p;have hsub:=Pm.hid hsub
   have hb: ∀j,((fan.take j).flatMap (QQ s n)).length<=(fan.flatMap (QQ s n)).length:=fun j=>by
    conv=>rhs;rw[<-List.take_append_drop j fan,Ac,A3]
    omega
   replace hb:=Pm.hid hb
   refine kL ?hpin fun gvs=>?_
   case hpin=>exact hpin
   simp only[parA,gslot,AB,Nat.reduceAdd];have hl1:(l++[p]).length=l.length+1:=by simp
   have hres:Am (l++p::fan.flatMap (QQ s n)=(l++[p])++fan.flatMap (QQ s n)):=Pm.hid (by simp);rw[hres.out];generalize l++[p]=l1 at*;clear hpin e hh hres hok hbi hbo;refine QeM ?_;simp only[Qcy,Qcx] at dv⊢;refine kR ?_;refine Qa 2 (h:=?_);have hpos:decide (((n+1:Nat):Int)>0)=true:=by simp
   repeat' first|refine kS ?_|refine(QfA [0,1] dv cK (hgl:=fun g hg=>hmem _ _ _ [_] g hg (by simp[AV.parts,go_sem])) (k:=?_))|refine kU ?_|refine kV ?_ ?_<;>intro q|fail
   rotate_left
   ·grind
   clear hpos dv cf ch;have hlv:((n+1:Nat):Int) -1=(n:Nat):=by omega
   refine Qs (fun mm st=> ∃j:Nat,j<=fan.length/\mm=fan.length -j/\
    st=⟨39,[(26,.d (tPtrs fan)),(27,.d (dI fan.length)),(28,.d (dI j)),(0,.d (.pd (rSt s))),(2,.d (dI (n+1:Nat))),(3,.fn (.func 61) [.ptr 0 0 0]),(1000000,.gh [.ptr 0 0 0,.osl 1 l.length 0 l.length] gvs)],
     [.row 0 [.osl 1 (l1++(fan.take j).flatMap (QQ s n)).length 0 (l1++(fan.take j).flatMap (QQ s n)).length],.arr (l1++(fan.take j).flatMap (QQ s n)).length 5 31 ((l1++(fan.take j).flatMap (QQ s n)).map rPtr)]⟩)
    [26,27,28,0,2,3,1000000] 2 fan.length ⟨0,by omega,rfl,by simp[keepE,go_sem]⟩ (round:=?_)
   rintro mm st ⟨j,hj,rfl,rfl⟩
   repeat refine kG ?_
   cases q3:decide ((j:Int)<(fan.length:Int))
   ·have hjf:j=fan.length:=by grind
    rw[hjf,Ak]
    repeat refine kA ?_
    exact QeH 2 .normal (.inl rfl) rfl rfl rfl rfl rfl rfl rfl
   have hj2:j<fan.length:=by grind
   obtain⟨x,hx⟩: ∃x,fan[j]? =some x:=⟨_,A2 hj2⟩;have hr:=Qu (f:=rPtr) hx;have htk:Am ((fan.take (j+1)).flatMap (QQ s n)=(fan.take j).flatMap (QQ s n)++QQ s n x):=Pm.hid (by rw[AW,hx];simp);have hbj:=hb.out (j+1);rw[htk.out,A3] at hbj;have ih2:=ih x (l1++(fan.take j).flatMap (QQ s n)) (hsub.out x (A9 hx)) (by grind) (by omega);rw[<-hlv,AN,<-htk.out] at ih2;generalize ho3:l1++(fan.take (j+1)).flatMap (QQ s n)=o3 at*;generalize l1++(fan.take j).flatMap (QQ s n)=o2 at*;simp only[Qcy,Qcx] at ih2;clear hx hb hsub ih hbj htk
   repeat' first|refine kS ?_|refine qS (iy hr) ?_|refine(Qf9 [0,1] ih2 cK (hgl:=fun g hg=>hmem _ _ _ [_] g hg (by simp[AV.parts,go_sem])) (k:=?_))|refine kU ?_|fail
   refine Qn (fan.length -(j+1)) (by omega) ⟨j+1,by omega,rfl,?_⟩;rw[ho3];simp[keepE,go_sem]
def ag_mem0(Lx:List AV)(Hx:List Blk)(g:AV)(hg:g∈Qcx [])(ha:AV.ptr 1 0 0∈Lx)(hd:AV.osl 2 0 0 0∈Hx.flatMap Blk.parts)(N:Nat):g.ren (rho [1,2] N)∈Lx++Hx.flatMap Blk.parts:=by
 simp only[Qcx,AE,AF,or_false] at hg;rcases hg with rfl|rfl
 ·exact A7 _ ha
 ·exact A6 _ hd
theorem bAll(s:Pm.Store)(hg:QM s)(htx:0<=s.2.2.1)(t:Pl.Tree)(ht:Q8 s t=true):Pure A0 31 [.pd (rSt s),dTree t] (tPtrs (QP s t)):=by
 have hT:=Qdu ht;have dw:=bWalkP s hg t.depth.toNat t.root [] (Qpt ht htx) (by have:=Qfh (s:=s) hT.hi;unfold QP at this;grind) (by have:=hT.hi;omega);have e:((t.depth.toNat:Nat):Int)=t.depth:=by have:=hT.lo;omega
 rw[e,Ao] at dw
 change Does _ _ _ _ _ _ (Qcy (QP s t)) at dw
 generalize QP s t=al at*;have hmem:=fun(l:List Pl.Ptr) (N:Nat)=>Qtk l N
 clear e hT ht;simp only[Qcy,Qcx] at dw;obtain⟨⟨p1,p2,p3,p4,p5⟩,depth,many⟩:=t;refine kE ?_;refine Qa 0 (h:=?_)
 repeat' first|refine kS ?_|refine(Qlu 1 0 5 31 (h:=?_))|refine qS (QeK rfl) ?_|refine(Qf9 [1,2] dw cK (hgl:=fun g hg=>ag_mem0 _ _ g hg (by simp[AV.parts,go_sem]) (by simp[Blk.parts,AV.parts]) _) (k:=?_))|refine kU ?_|fail
 refine Qel [4] 3 (h:=?_);refine Qa 2 (h:=?_);refine Qb (hx:=?_);rw[A8 (by simp)]
def bUse1(s:Pm.Store)(hg:QM s)(htx:0<=s.2.2.1)(n:Qi)(ht:Q8 s n.tree=true):Pure A0 35 [dNode n,.pd (rSt s)] (dI (Qag s n)):=by
 have c:=bAll s hg htx n.tree ht;have hd:Am (Qag s n=((QP s n.tree).length:Nat)):=Pm.hid rfl;rw[hd.out];generalize QP s n.tree=al at*;clear hd ht;obtain⟨kd,links,size,⟨⟨p1,p2,p3,p4,p5⟩,depth,many⟩⟩:=n;simp only at c⊢;refine kE ?_;refine Qa 0 (h:=?_)
 repeat refine kA ?_
 exact Qb (hx:=rfl)
theorem bSumC(s:Pm.Store)(t:Pl.Tree)(p:List UInt8)(hp:p.length<=1000000000000)(cS:Pure A0 42 [dSt s] (dB (QO s)))(hg:QO s=true->QM s/\0<=s.2.2.1)(hT:QO s=true->QcJ s)
 (f:FuncId) (cap:D) (F:Qi->Int) (hf: ∀args w,(callFunc f args).run A0 w= .ok (.enter f args) w) (hF:QO s=true-> ∀n:Qi,Q8 s n.tree=true->Pure A0 f [dNode n,cap] (dI (F n))) (hFb: ∀n:Qi,Q8 s n.tree=true->0<=F n/\F n<=1000000)
 (L:List Nat) (hL:QO s=true->Qb8 s t=true->QbJ s (Qc s t)=true-> ¬Qal s (Qc s t) p<0->L.length<=1000/\Gr.FD (Qo (Qm (Qc s t))) (Qcg s (Qc s t)) [(Qal s (Qc s t) p).toNat] L):
 PureF A0 34 [.d (dSt s),.d (dTree t),.d (dS p),.fn (.func f) [.d cap]] (.tup [dI (Qc7 s t p F (Qae [] L)).1,dB (Qc7 s t p F (Qae [] L)).2]):=by
 have c1:=Qln s t cS hg hT;have hd:Am (Qc7 s t p F (Qae [] L)=if QO s&&Qb8 s t&&QbJ s (Qc s t) then(if Qal s (Qc s t) p<0 then(0,false) else(Qbm F ((Qae [] L).map fun k=>(Qm (Qc s t)).getD k Qd),true)) else(0,false)):=Pm.hid rfl;generalize Qc7 s t p F (Qae [] L)=res at*
 by_cases hok:(QO s&&Qb8 s t&&QbJ s (Qc s t))=true
 rotate_left
 ·have hbad:=Pm.hid (hd.out.trans (if_neg hok))
  obtain⟨a,ha⟩: ∃a,Qcq s t= .tup [a,dB false]:=by
   unfold Qcq QbH;simp only[A5,not_and] at hok;split
   ·split
    ·simp_all
    grind
   grind
  rw[ha] at c1;refine kF ?_;refine kR ?_;refine Qa 0 (h:=?_);refine Qa 1 (h:=?_)
  repeat refine kA ?_
  refine QY (hx:=?_);rw[hbad.out]
 have hok':=hok;rw[A5,A5] at hok';obtain⟨⟨h1,h2⟩,h3⟩:=hok'
 have hin:Qcq s t= .tup [.pd (rFiles s t (Qc s t) (QaC s (Qc s t) (Qc s t).length)),dB true]:=by
  unfold Qcq QbH
  grind
 rw[hin] at c1;have htab:Qao s t=true:=by unfold Qb8 at h2;grind
 obtain⟨hx,hx16,_⟩:=Qiw htab
 have hgt: ∀y∈Qc s t,y≠[]->Q8 s (Qq y).1.tree=true:=fun y hy hne=>by
  have h:=htab;unfold Qao at h
  grind
 have hFs:=hF h1;have hm:=Qlg s (Qc s t);have hL:=hL h1 h2 h3;have hd2:=hd.out.trans (if_pos hok);clear hin hok htab h1 h2 h3 hd cS hg hT;generalize Qc s t=x at*;generalize QaC s x x.length=m at*
 obtain⟨N,fine,c2,hr,hNb,hNl⟩: ∃(N:List Qi) (fine:Bool),Pure A0 67 [.pd (rFiles s t x m),dS p] (.tup [.sl true 10 (N.map rNode),dB fine])/\res=(Qbm F N,fine)/\(∀n∈N,Q8 s n.tree=true)/\N.length<=1000:=by
  by_cases hneg:Qal s x p<0
  ·exact⟨[],false,Qu8 s t x m hm p hp hneg,by rw[hd2,if_pos hneg];rfl,fun n hn=>by simp at hn,by simp⟩
  ·obtain⟨hL1,hL2⟩:=hL hneg
   obtain⟨j,hj⟩:=AL (show 0<=Qal s x p by omega);rw[hj,AM] at hL2;refine⟨(Qae [] L).map fun k=>(Qm x).getD k Qd,true,?_,by grind,?_,?_⟩
   ·have:=Qtb s t x hx m hm p hp j hj L hL1 hL2
    rw[Aq];exact this
   ·intro n hn
    obtain⟨k,hk,rfl⟩:=Ae.1 hn;rw[QhB] at hk;have hk:=hk.resolve_left (by simp);have hkd:=hL2.kinds k hk;rcases Qe8 hx k with⟨_,h⟩|⟨g1,g2,_⟩
    ·exfalso;unfold Qo at hkd;rw[h] at hkd;rcases hkd with h|h
     ·cases h
     ·cases h.1
    grind
   ·rw[A4];have:=(Qgw L []).2.1;grind
 clear hd2 hL hm hx hx16 hgt hF;subst hr;have hFc:=Pm.hid (fun n hn=>hFs n (hNb n hn));have hNb:=Pm.hid (fun n hn=>hFb n (hNb n hn));clear hFs hFb;refine kF ?_;refine kR ?_;refine Qa 0 (h:=?_);refine Qa 1 (h:=?_)
 repeat refine kA ?_
 refine Qs (fun mm st=> ∃k:Nat,k<=N.length/\mm=N.length -k/\0<=Qbm F (N.take k)/\Qbm F (N.take k)<=k*1000000/\
  st=⟨45,[(31,.d (.sl true 10 (N.map rNode))),(32,.d (dI N.length)),(33,.d (dI k)),(14,.d (dI (Qbm F (N.take k)))),(3,.fn (.func f) [.d cap]),(13,.d (dB fine))],[]⟩) [31,32,33,14,3,13] 0 N.length ⟨0,by omega,rfl,by simp[Qbm],by simp[Qbm],by simp[keepE,go_sem,Qbm]⟩ (round:=?_)
 rintro mm st ⟨k,hk,rfl,hs1,hs2,rfl⟩
 repeat refine kG ?_
 cases q3:decide ((k:Int)<(N.length:Int))
 ·repeat refine kA ?_
  refine QY (hx:=?_)
  grind
 have hk2:k<N.length:=by grind
 obtain⟨y,hy⟩: ∃y,N[k]? =some y:=⟨_,A2 hk2⟩;have hr:=Qu (f:=rNode) hy;have hyb:=hNb.out y (A9 hy)
 have hstep:Am (Qbm F (N.take (k+1))=Qbm F (N.take k)+F y):=Pm.hid (by
  unfold Qbm
  rw[AW,hy];simp)
 have c:=hFc.out y (A9 hy);clear hy hNb hFc;generalize hs:Qbm F (N.take (k+1))=s2 at*;generalize Qbm F (N.take k)=s1 at*;generalize F y=fy at*
 repeat' first|refine kS ?_|refine qS (iy hr) ?_|refine qS (Qe0 hf c rfl rfl) ?_|refine kU ?_|fail
 refine Qn (N.length -(k+1)) (by omega) ⟨k+1,by omega,rfl,?_,?_,?_⟩
 ·rw[hs,hstep.out];omega
 ·rw[hs,hstep.out];omega
 ·rw[hs,hstep.out];simp[keepE,go_sem]
def Qqw(s:Pm.Store)(t:Pl.Tree)(p:List UInt8)(r:Int×Bool)(c:PureF A0 34 [.d (dSt s),.d (dTree t),.d (dS p),.fn (.func 35) [.d (.pd (rSt s))]] (.tup [dI r.1,dB r.2])):
 Pure A0 14 [dSt s,dTree t,dS p] (.tup [dI r.1,dB r.2]):=by
 obtain⟨a,b⟩:=r;simp only at c⊢;refine kE ?_;refine Qa 0 (h:=?_);refine Qa 1 (h:=?_)
 repeat' first|refine kS ?_|refine qS (QeK rfl) ?_|refine qS (QdX cK c rfl rfl) ?_|refine kU ?_|fail
 exact Qb (hx:=rfl)
def Qm5(s:Pm.Store)(hl:Qch s)(t:Pl.Tree)(p:List UInt8)(hp:p.length<=1000000000000):
 Pure A0 14 [dSt s,dTree t,dS p] (.tup [dI (Qab s t p (Qag s)).1,dB (Qab s t p (Qag s)).2]):=by
 obtain⟨L,hL,hs⟩:=Qtz s t p (Qag s) (Qag s) (fun _ _=>rfl);rw[<-hs];have hg:QO s=true->QM s/\0<=s.2.2.1:=fun h=>⟨Qd5 h,Qey h⟩
 refine Qqw s t p _ (bSumC s t p hp (Qll s hl.b1 hl.b2 hl.b3 hl.b4) hg (fun h=>bText s (hg h).1 (hg h).2 (QhM s)) _ _ (Qag s) Tryz.call35 (fun h n hn=>bUse1 s (hg h).1 (hg h).2 n hn) (fun n hn=>?_) L hL);have:=Qfh (s:=s) (Qdu hn).hi;unfold Qag;omega
def Qc9(s:Pm.Store)(x:List (List UInt8)):List Pl.Ptr:=x.flatMap fun y=>if y=[] then [] else QP s (Qq y).1.tree
def QmI(s:Pm.Store){x:List (List UInt8)}{n:Nat}{y:List UInt8}(hy:x[n]? =some y):Qc9 s (x.take (n+1))=Qc9 s (x.take n)++(if y=[] then [] else QP s (Qq y).1.tree):=by
 unfold Qc9;rw[AW,hy];simp only[Option.toList,Ac,List.flatMap_cons,List.flatMap_nil,AD]
def QuG(s:Pm.Store)(t:Pl.Tree):((Qc9 s (Qc s t)).length:Int)=QbO s t:=by
 unfold QbO Qe;generalize Qc s t=x;obtain⟨F,hF⟩: ∃F:Nat->Int,F=fun k=>Qag s ((x.map fun y=>(Qq y).1).getD k Qd):=⟨_,rfl⟩
 rw[<-hF]
 have key: ∀n,n<=x.length->((Qc9 s (x.take n)).length:Int)=Qa6 F n:=by
  intro n;induction n with
  |zero=>intro _;rw[Ap];rfl
  |succ n ih=>
   intro hn;obtain⟨y,hy⟩: ∃y,x[n]? =some y:=⟨_,A2 (by omega)⟩
   have e2:F n=Qag s (Qq y).1:=by
    rw[hF];show Qag s ((x.map fun y=>(Qq y).1).getD n Qd)=_;rw[AC,AO,hy];rfl
   have ih:=ih (by omega);show _=Qa6 F n+F n;rw[QmI s hy,e2,<-ih,A3]
   by_cases h:y=[]
   ·rw[if_pos h,h,QkI,QqK];simp
   ·rw[if_neg h];unfold Qag;omega
 have:=key x.length (AK _);rw[Ak] at this;rw[A4];exact this
def Qvn(s:Pm.Store){x:List (List UInt8)}(h: ∀y∈x,y≠[]->Q8 s (Qq y).1.tree=true): ∀k,k<=x.length->(Qc9 s (x.take k)).length<=k*21
 |0,_=>by rw[Ap];exact AK _
 |k+1,hk=>by
  have ih:=Qvn s h k (by omega);obtain⟨y,hy⟩: ∃y,x[k]? =some y:=⟨_,A2 (by omega)⟩;rw[QmI s hy,A3];split
  ·simp only[List.length_nil];omega
  ·rename_i hn
   have:=Qfh (s:=s) (Qdu (h y (A9 hy) hn)).hi;omega
def QmU{s:Pm.Store}{t:Pl.Tree}(htab:Qao s t=true):Q8 s t=true/\ ∀y∈Qc s t,y≠[]->Q8 s (Qq y).1.tree=true:=by
 unfold Qao at htab;rw[A5,AQ] at htab;refine⟨htab.1,fun y hy hne=>?_⟩;have h:=htab.2 y hy;rw[AJ,A5] at h;rcases h with h|h
 ·exact absurd (by simpa using h) hne
 ·exact h.2
def bCloneP(l:List Pl.Ptr)(hl:l.length<=1000):Pure A0 114 [tPtrs l] (tPtrs l):=by
 cases l with
 |nil=>
  refine Qoo fun a k=>?_
  cases a
  all_goals
   refine kB ?_
   repeat' first|refine kS ?_|refine qS (loc_bin' (X:= .slice _ 0 k) (Y:= .slice none 0 0) rfl rfl fun w=>Qi7 Ah _ _ _ _ _ w) ?_|refine(QnT 6 true 5 (h:=?_))|refine(QdW Ty.h rfl Ty.h (hcell:=?_) (hb:=?_) (kk:=?_))|refine kU ?_|fail
  ·refine Qd7 2 true 5 (h:=?_)
   exact Qb (hx:=rfl)
  ·intro r hr;cases hr
  ·decide
  ·refine Qa 0 (h:=?_)
   exact Qb (hx:=rfl)
 |cons a l=>
  refine kB ?_
  repeat' first|refine kS ?_|refine qS (QgQ Ah rfl) ?_|refine(QdW Ty.h rfl Ty.h (hcell:=?_) (hb:=?_) (kk:=?_))|refine kU ?_|fail
  ·exact Qdy (a::l)
  ·show(0+((a::l).map rPtr).length)*40<=140737488355328
   rw[A4];omega
  ·refine Qa 0 (h:=?_)
   refine Qb (hx:=?_);rw[A8 (by simp)];rfl
def QnM(s:Pm.Store)(cS:Pure A0 42 [dSt s] (dB true))(hg:QM s)(htx:0<=s.2.2.1)(t:Pl.Tree)(ht:Q8 s t=true):Pure A0 59 [dSt s,dTree t] (.tup [tPtrs (QV s t).1,dB true]):=by
 have c1:=bLeaves s hg htx t;have e2:(QV s t).2=true:=by unfold QV;rw[if_pos ht]
 have hlen:=QeW ht;rw[e2] at c1;generalize (QV s t).1=l at*;have c2:=bCloneP l (by omega);clear hlen e2 ht;refine kE ?_;refine Qa 0 (h:=?_);refine Qa 1 (h:=?_)
 repeat refine kA ?_
 all_goals first|exact Qb (hx:=rfl)
def bTreeOk(s:Pm.Store)(t:Pl.Tree)(a:D)(c:Pure A0 59 [dSt s,dTree t] (.tup [a,dB true])):Pure A0 30 [dSt s,dTree t] (dB true):=by
 refine kE ?_;refine Qa 0 (h:=?_);refine Qa 1 (h:=?_)
 repeat refine kA ?_
 all_goals first|exact Qb (hx:=rfl)
def Quy(s:Pm.Store)(cS:Pure A0 42 [dSt s] (dB true))(hg:QM s)(htx:0<=s.2.2.1)(t:Pl.Tree)(ht:Q8 s t=true):Pure A0 12 [dSt s,dTree t] (.tup [tPtrs (QP s t),dB true]):=by
 have c1:=bTreeOk s t _ (QnM s cS hg htx t ht);have c2:=bAll s hg htx t ht;refine kE ?_;refine Qa 0 (h:=?_);refine Qa 1 (h:=?_)
 repeat refine kA ?_
 all_goals first|exact Qb (hx:=rfl)
def bTable(s:Pm.Store)(cS:Pure A0 42 [dSt s] (dB true))(hg:QM s)(htx:0<=s.2.2.1)(t:Pl.Tree)(ht:Qao s t=true):Pure A0 26 [dSt s,dTree t] (.tup [tNds (Qc s t),dB true]):=by
 have c:=bNodes s hg htx t;rw[ht,if_pos rfl] at c;generalize Qc s t=x at*;clear ht;refine kE ?_;refine Qa 0 (h:=?_);refine Qa 1 (h:=?_)
 repeat refine kA ?_
 all_goals first|exact Qb (hx:=rfl)
def QsV(s:Pm.Store)(t:Pl.Tree)(x:List (List UInt8))(hx:x.length<=16)(c1:Pure A0 26 [dSt s,dTree t] (.tup [tNds x,dB true]))(k:Int):Pure A0 11 [dSt s,dTree t,dI k] (.tup [dNode (Qcv x k).1,dB (Qcv x k).2]):=by
 have c2:=bNodeAt x k (by omega);generalize Qcv x k=r at*;obtain⟨⟨kd,links,size,⟨⟨p1,p2,p3,p4,p5⟩,depth,many⟩⟩,b⟩:=r;refine kD ?_;refine Qa 0 (h:=?_);refine Qa 1 (h:=?_)
 repeat refine kA ?_
 (refine Qa 2 (h:=?_);refine QY (hx:=?_))
 rfl
def Qcr(x:List (List UInt8))(n:Nat):List Nat:=(AY n).filter fun k=>decide (Qo (Qm x) k≠0)
def Qug(x:List (List UInt8))(n:Nat):Qcr x (n+1)=Qcr x n++(if Qo (Qm x) n=0 then [] else [n]):=by
 unfold Qcr;rw[List.range_succ,List.filter_append]
 by_cases h:Qo (Qm x) n=0<;>simp[h]
def QrY(x:List (List UInt8))(n:Nat):(Qcr x n).length<=n:=by
 have:=List.length_filter_le (fun k=>decide (Qo (Qm x) k≠0)) (AY n);rw[List.length_range] at this;exact this
def Qqm(s:Pm.Store)(t:Pl.Tree)(x:List (List UInt8))(hx:x.length<=16)(hxo:Qcl x)(c1:Pure A0 26 [dSt s,dTree t] (.tup [tNds x,dB true])):
 Pure A0 8 [dSt s,dTree t] (.tup [.sl true 1 ((Qcr x x.length).map fun k=>[dI (k:Nat)]),dB true]):=by
 have hkz:=Qhq hxo;refine kE ?_;refine Qa 0 (h:=?_);refine Qa 1 (h:=?_)
 repeat refine kA ?_
 refine Qfk 8 1 3 (h:=?_)
 refine Qs (fun mm st=> ∃k g:Nat,k<=x.length/\mm=x.length -k/\
  st=⟨34,[(19,.d (tNds x)),(20,.d (dI x.length)),(21,.d (dI k)),(8,.osl 2 g 0 (Qcr x k).length)],[.row 1 [],.row 1 [],.arr g 1 3 ((Qcr x k).map fun k=>[dI (k:Nat)])]⟩) [19,20,21,8] 3 x.length ⟨0,0,by omega,rfl,by simp[keepE,go_sem,Qcr]⟩ (round:=?_)
 rintro mm st ⟨k,g,hk,rfl,rfl⟩;have hil:=QrY x k
 repeat refine kG ?_
 cases q3:decide ((k:Int)<(x.length:Int))
 ·have:k=x.length:=by simp at q3;omega
  rw[<-this]
  repeat refine kA ?_
  refine Qa 2 (h:=?_);refine Qb (hx:=?_);rw[A8 (by simp)]
 have hk2:k<x.length:=by simp at q3;omega
 obtain⟨y,hy⟩: ∃y,x[k]? =some y:=⟨_,A2 hk2⟩;have hyd:x.getD k []=y:=by rw[AC,hy];rfl
 have hr:=Qu (f:=fun x=>[QaO x]) hy;have hst:=Qug x k;have hz:=hkz k;rw[hyd] at hz
 by_cases hyn:y=[]
 ·have hnd:QaO y= .v (.pointer none):=by unfold QaO;rw[if_pos hyn]
  simp only[hnd] at hr;rw[if_pos (hz.2 hyn),AD] at hst
  repeat' first|refine kS ?_|refine qS (iy hr) ?_|refine qS (Qim Ai rfl) ?_|refine kU ?_|fail
  all_goals first
   |(exfalso;simp at*;done)
   |(refine Qn (x.length -(k+1)) (by omega) ⟨k+1,g,by omega,rfl,?_⟩
     rw[hst]
     simp[keepE,go_sem];done)
 ·have hnd:QaO y= .pd (rNode (Qq y).1):=by unfold QaO;rw[if_neg hyn]
  simp only[hnd] at hr;rw[if_neg (fun h=>hyn (hz.1 h))] at hst;clear hz hyd hy hnd hkz;generalize hI2:Qcr x (k+1)=I2 at*;generalize Qcr x k=I at*;generalize (Qq y).1=N at*
  repeat' first|refine kS ?_|refine qS (iy hr) ?_|refine qS (Qhm Ai rfl) ?_|refine QU Ty.h rfl Ty.h (hb:=?_) (kk:=?_)|refine kU ?_|fail
  all_goals first
   |(exfalso;simp at*;done)
   |(show((I.map fun k=>[dI (k:Nat)]).length+1)*8<=140737488355328
     rw[A4];omega)
   |(refine Qn (x.length -(k+1)) (by omega) ⟨k+1,g+1,by omega,rfl,?_⟩
     rw[hI2,hst]
     simp[keepE,go_sem];done)
abbrev rFd(x:Gr.It):List D:=[dS (Qb1 x.1),dI (x.2:Nat)]
def QcF(l:List Gr.It):List Blk:=[.row 0 [.osl 1 l.length 0 l.length],.arr l.length 2 81 (l.map rFd)]
def Qc5(l:List Gr.It):List AV:=[.ptr 0 0 0,.osl 1 l.length 0 l.length]
def QuT(l m:List Gr.It): ∀i C,(QcF l)[i]? =some C-> ∃C',(QcF (l++m))[i]? =some C'/\pin1 (Qc5 l) i C C':=by
 intro i C hC
 match i,hC with
 |0,hC=>obtain rfl:=A1 hC;exact⟨_,rfl,.inr ⟨rfl,0,by simp[Qc5]⟩⟩
 |1,hC=>
  obtain rfl:=A1 hC;refine⟨_,rfl,rfl,rfl,?_⟩;rcases m with _|⟨x,m⟩
  ·exact .inr ⟨by simp,by simp,0,l.length,by simp[Qc5]⟩
  ·exact .inl (by simp)
def wg_mem(l:List Gr.It)(N:Nat)(Lx:List AV)(Hr:List Blk)(g:AV)(hg:g∈Qc5 l)(ha:AV.ptr 0 0 0∈Lx):g.ren (rho [0,1] N)∈Lx++(QcF l++Hr).flatMap Blk.parts:=by
 simp only[Qc5,AE,AF,or_false] at hg;rcases hg with rfl|rfl
 ·exact A7 _ ha
 ·exact A6 _ (by simp[QcF,Blk.parts,AV.parts,AV.ren,rho])
def wg_mem0(Lx:List AV)(Hx:List Blk)(g:AV)(hg:g∈Qc5 [])(ha:AV.ptr 2 0 0∈Lx)(hd:AV.osl 3 0 0 0∈Hx.flatMap Blk.parts)(N:Nat):g.ren (rho [2,3] N)∈Lx++Hx.flatMap Blk.parts:=by
 simp only[Qc5,AE,AF,or_false] at hg;rcases hg with rfl|rfl
 ·exact A7 _ ha
 ·exact A6 _ hd
def Qql(l:List Gr.It)(hl:l.length<=1000000)(x:Gr.It):Does A0 28 [.d (.agg (rFd x)),.ptr 0 0 0] (QcF l) (Qc5 l) (.tup []) (QcF (l++[x])):=by
 refine kL ?hpin fun gvs=>?_
 case hpin=>exact QuT l [x]
 simp only[parA,gslot,AB,Nat.reduceAdd,QcF,Qc5];rw[A3,AP,AG,AR,Af];refine QeM ?_;refine kR ?_;refine Qa 2 (h:=?_)
 repeat' first|refine kS ?_|refine QU Ty.h rfl Ty.h (hb:=?_) (kk:=?_)|refine kU ?_|fail
 all_goals first
  |(show((l.map rFd).length+1)*24<=140737488355328
    rw[A4];omega)
  |exact QeH 2 .normal (.inl rfl) rfl rfl rfl rfl rfl rfl rfl
  |(rw[A4]
    exact QeH 2 .normal (.inl rfl) rfl rfl rfl rfl rfl rfl rfl)
theorem bWalkW(s:Pm.Store)(t:Pl.Tree)(x:List (List UInt8))(m:List (Int×D))(hm:QbV m (Qav s x)): ∀(n:Nat) (L:List Gr.It) (k:Nat) (names:List (List UInt8)) (out:List Gr.It),L.length<=n->QcD s x [(names,k)] L->
 names.length+L.length<=1000->(∀a∈names,a.length<=4)->out.length+L.length<=1000000->
 Does A0 27 [.d (.pd (rFiles s t x m)),.d (dI k),.d (Qci names),.fn (.func 28) [.ptr 0 0 0]] (QcF out) (Qc5 out) (.tup []) (QcF (out++L)):=by
 intro n;induction n with
 |zero=>
  intro L k names out h1 h2;obtain⟨L1,rfl,_⟩:=Qvd h2;simp at h1
 |succ n ih=>
  intro L k names out h1 h2 h3 h4 h5;obtain⟨L1,rfl,hfd,hk0⟩:=Qvd h2;simp only[AX] at h1 h3 h5;have dv:=Qql out (by omega) (names,k)
  obtain⟨dn,g0,hdn,cp,hcl⟩: ∃(dn:D) (g0:Nat),Qci names=dn/\Pure A0 56 [dn] (dS (Qb1 names))/\Does A0 57 [.d dn] [] [] (.osl 0 g0 0 names.length) [.arr g0 1 9 (names.map fun s=>[dS s])]:=by
   have cp:=Qj8 names (by omega) (fun a ha=>by have:=h4 a ha;omega)
   by_cases hn:names=[]
   ·subst hn
    exact⟨_,0,rfl,QlL cp,Qm7⟩
   ·exact⟨tStrs names,1,by unfold Qci;rw[if_neg hn],cp,Qm6 names (by omega) hn⟩
  rw[hdn];clear hdn;obtain⟨hE,hgt⟩:=hm (k:Nat) (by omega);refine kL ?hpin fun gvs=>?_
  case hpin=>exact QuT out _
  simp only[parA,gslot,AB,Nat.reduceAdd];rw[show out++(names,k)::L1=(out++[(names,k)])++L1 by simp];clear h2 hk0;have hvm:=fun(out:List Gr.It) (N:Nat)=>wg_mem out N
  have hol:(out++[(names,k)]).length=out.length+1:=by simp
  generalize out++[(names,k)]=out1 at*
  have hg:mget m (k:Nat)=some (.sl true 2 ((Qav s x (k:Nat)).map rEnt))∨mget m (k:Nat)=none/\(Qav s x (k:Nat)).map rEnt=[]:=by
   rcases hgt with h|⟨h1,h2⟩
   ·exact .inl h
   ·exact .inr ⟨h1,by rw[h2];rfl⟩
  generalize Qav s x (k:Nat)=es at*;have hsp:rFd (names,k)=[dS (Qb1 names),dI (k:Nat)]:=rfl;rw[hsp] at dv;generalize Qb1 names=pt at*;clear hgt hsp;have hes:es.length<=12:=by have:=hE;unfold Qaa at this;rw[A5,decide_eq_true_eq] at this;exact this.2
  refine QeM ?_;simp only[QcF,Qc5] at dv⊢
  repeat' first|refine kS ?_|refine(QfA [0,1] dv cK (hgl:=fun g hg=>hvm _ _ _ [] g hg (by simp[AV.parts,go_sem])) (k:=?_))|refine qS (Qdq rfl) ?_|refine qS (Qfd Ag AH (by kernel_rfl) rfl rfl hg) ?_|refine kU ?_|fail
  refine Qs (fun mm st=> ∃(j:Nat) (Ld Lr:List Gr.It),j<=es.length/\mm=es.length -j/\Am (L1=Ld++Lr)/\Am (QcD s x ((es.drop j).map fun e=>(names++[e.1],e.2.toNat)) Lr)/\
   st=⟨39,[(21,.d (tEnts es)),(22,.d (dI es.length)),(23,.d (dI j)),(0,.d (.pd (rFiles s t x m))),(2,.d dn),(3,.fn (.func 28) [.ptr 0 0 0]),(1000000,.gh [.ptr 0 0 0,.osl 1 out.length 0 out.length] gvs)],
    [.row 0 [.osl 1 (out1++Ld).length 0 (out1++Ld).length],.arr (out1++Ld).length 2 81 ((out1++Ld).map rFd)]⟩)
   [21,22,23,0,2,3,1000000] 2 es.length ⟨0,[],L1,by omega,rfl,Pm.hid rfl,Pm.hid hfd,by simp[keepE,go_sem]⟩ (round:=?_)
  rintro mm st ⟨j,Ld,Lr,hj,rfl,hL,hF,rfl⟩
  repeat refine kG ?_
  cases q3:decide ((j:Int)<(es.length:Int))
  ·have hje:j=es.length:=by simp at q3;omega
   have hLd:L1=Ld:=by
    have h:=hF.out;rw[hje,Aj] at h;cases h;rw[hL.out,AD]
   clear dv hcl cp ih hvm;subst hLd
   repeat refine kA ?_
   exact QeH 2 .normal (.inl rfl) rfl rfl rfl rfl rfl rfl rfl
  have hj2:j<es.length:=by simp at q3;omega
  obtain⟨e,he⟩: ∃e,es[j]? =some e:=⟨_,A2 hj2⟩;have hr:=Qu (f:=rEnt) he;have heb:=ent_b hE e (A9 he);have hdr:es.drop j=e::es.drop (j+1):=by rw[AT hj2,(AU.1 he).2]
  have hF2:=hF.out;rw[hdr,AR] at hF2;obtain⟨M,R,rfl,hM,hR⟩:=fp_cons hF2;obtain⟨nmE,id⟩:=e;simp only at heb hM;obtain⟨kid,rfl⟩:=AL (show 0<=id by omega);rw[AM] at hM;have hLl:=congrArg Ar hL.out;simp only[A3] at hLl
  have h4': ∀a∈names++[nmE],a.length<=4:=fun a ha=>by
   rcases An.1 ha with h|h
   ·exact h4 a h
   ·rw[AA.1 h];exact QdQ heb.1
  have ih2:=ih M kid (names++[nmE]) (out1++Ld) (by omega) hM (by simp;omega) h4' (by rw[A3];omega);have hnm:Qci (names++[nmE])=tStrs (names++[nmE]):=by unfold Qci;rw[if_neg (by simp)]
  rw[hnm,AN] at ih2
  replace hR:=Pm.hid hR
  clear he hdr hF2 hF hM ih hnm dv cp h4 h4' hol;have hL2:Am (L1=(Ld++M)++R):=Pm.hid (by rw[AN];exact hL.out);clear hL hLl hfd;generalize ho3:out1++(Ld++M)=o3 at*;generalize out1++Ld=o2 at*;simp only[QcF,Qc5] at ih2
  repeat' first|refine kS ?_|refine qS (iy hr) ?_|(show AWP _ (.region 4 _ _) _ _;refine(Qa 2 (h:=Fg.awp_drawF (id:=4) [0,1,2,3,5,6,7,9] [4,8,10] ?_)))|refine(Fg.aw_fltL (hl:=fun H=>Qd8 Ty.h rfl Ty.h) (k:=?_))|refine(Qh7 [] hcl cK (x':= .osl 3 g0 0 names.length) (hX:=fun _ h=>h) (H':=[.row 0 [.osl 1 o2.length 0 o2.length],.arr o2.length 2 81 (o2.map rFd),.row 1 [],.arr g0 1 9 (names.map fun s=>[dS s])]) (hH:=fun _ h=>h) (k:=?_))|refine(Qi9 Ty.h rfl Ty.h (hcell:=?_) (hb:=?_) (kk:=?_))|refine(QmB 3 [0,1] ih2 cK (H':=[.row 0 [.osl 1 o3.length 0 o3.length],.arr o3.length 2 81 (o3.map rFd),.row 1 [],.arr (g0+1+1) 1 9 []]) (hH:=?_) (hargs:=?_) (hgl:=?_) (k:=?_))|refine kU ?_|fail
  ·intro r hr d hd
   obtain rfl:=AA.1 hr;obtain rfl:=AA.1 hd;rfl
  ·show((names.map fun s=>[dS s]).length+1)*16<=140737488355328
   rw[A4];omega
  ·have htk:((names.map fun s=>[dS s])++[[dS nmE]]).take ((names.map fun s=>[dS s]).length+[[dS nmE]].length)=(names++[nmE]).map fun s=>[dS s]:=by
    rw[A8 (by simp),AG];rfl
   exact congrArg (fun r=>[AV.d (.pd (rFiles s t x m)),AV.d (dI (kid:Nat)),AV.d (.sl true 1 r),AV.fn (.func 28) [.ptr 0 0 0]]) htk
  ·exact fun g hg=>hvm _ _ _ [_,_] g hg (by simp[AV.parts,go_sem])
  ·intro R hR;exact hR
  skip
  all_goals first
   |(refine Qn (es.length -(j+1)) (by omega) ⟨j+1,Ld++M,R,by omega,rfl,hL2,hR,?_⟩
     rw[ho3]
     simp[keepE,go_sem];done)
def Qqv(s:Pm.Store)(t:Pl.Tree)(x:List (List UInt8))(m:List (Int×D))(hm:QbV m (Qav s x))(cI:Pure A0 19 [dSt s,dTree t] (.tup [.pd (rFiles s t x m),dB true]))(L:List Gr.It)(hL:QcD s x [([],0)] L)(hl:L.length<=144):
 Pure A0 9 [dSt s,dTree t] (.tup [.sl true 2 (L.map rFd),dB true]):=by
 have dw:=bWalkW s t x m hm L.length L 0 [] [] (AK _) hL (by simp;omega) (fun a ha=>by simp at ha) (by simp;omega);rw[show Qci []= .v (.slice none 0 0) by unfold Qci;rw[if_pos rfl],Ao] at dw;have hgl:=wg_mem0;clear hL;simp only[QcF,Qc5] at dw hgl;refine kE ?_;refine Qa 0 (h:=?_);refine Qa 1 (h:=?_)
 repeat' first|refine kS ?_|refine(Qlu 2 0 2 81 (h:=?_))|refine qS (QeK rfl) ?_|refine(Qf9 [2,3] dw cK (hgl:=fun g hg=>hgl _ _ g hg (by simp[AV.parts,go_sem]) (by simp[Blk.parts,AV.parts]) _) (k:=?_))|refine kU ?_|fail
 refine Qel [4,5] 4 (h:=?_);refine Qa 3 (h:=?_);refine Qb (hx:=?_);rw[A8 (by simp)]
end Aw
end
section
open Go.RowKit
namespace Aw
open Pm (Rep)
def Pure.at{f:FuncId}{args:List D}{x:D}(h:Pure A0 f args x){w:Al}(hL:Pm.Lt w)(cargs:List AZ)(hl:args.length=cargs.length)(hr: ∀(i:Nat) d v,args[i]? =some d->cargs[i]? =some v->RelD (fun b=>b<w.heap.size) w d v):
 Aa A0 f cargs.toArray w fun e w'=> ∃v,e= .returned v/\AI w.heap.size w w'/\RelD (fun b=>b<w'.heap.size) w' x v:=by
 have hS:Sm ⟨w,nG,fun _=>False,fun b=>b<w.heap.size⟩ (fun _=>none) (fun b=>b<w.heap.size) [] w:=
  ⟨rfl,rfl,rfl,AK _,fun _ _ _=>rfl,fun _ h=>h,fun b hb=>⟨hb,.inl hb⟩,fun k b hk=>by simp at hk,fun k k' b hk=>by simp at hk,fun k C hC=>by simp at hC⟩
 refine(h ⟨w,nG,fun _=>False,fun b=>b<w.heap.size⟩ (fun _=>none) (fun b=>b<w.heap.size) [] w cargs ⟨rfl,fun _ hb=>hb.elim,hL⟩ hS hl hr).mono fun e w' ⟨v,h1,h2,h3⟩=>⟨v,h1,h2,h3.mono (fun b hb=>?_) fun _ _=>rfl⟩
 have:=h2.size;omega
