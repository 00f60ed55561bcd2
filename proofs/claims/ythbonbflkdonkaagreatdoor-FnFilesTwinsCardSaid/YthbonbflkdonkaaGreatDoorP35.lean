/- Of ftw_card; no condition. -/
import Derived.Test.YthbonbflkdonkaaGreatDoorP31
import Derived.Test.YthbonbflkdonkaaGreatDoorP33
set_option linter.all false
set_option maxRecDepth 100000
set_option maxHeartbeats 16000000
open Bool renaming and_eq_true->A8,false_eq_true->AG
open Go renaming Value->AJ,World->AM,Calls->AN
open Go.Proofs.Tryz renaming underlying3->A0,underlying194->A1,prog->A2,underlying69->A4,underlying72->AH,underlying23->AI
open Go.RowKit renaming Below->AB,Hid->AL
open Int renaming toNat_natCast->A7,eq_ofNat_of_zero_le->AC
open List renaming range->A5,getElem?_eq_getElem->A6,exists_cons_of_ne_nil->A9,mem_singleton->AA,length_map->AD,count_le_length->AE,mem_of_getElem?->AF,length_cons->AK,count->AP
open Nat renaming zero_add->AO
open Option.some renaming inj->A3
namespace Go.Proofs.YthbonbflkdonkaaGreatDoor
noncomputable section
open Go.RowKit
namespace Aw
variable{x:D}{f:FuncId}{args:List D}
attribute [local irreducible] ASeq ADraw AWP Loc mget mset AStep Fg.PlanF Fg.Flts
def bLinked(s:Pm.Store)(t:Pl.Tree)(x:List (List UInt8))(hx16:x.length<=16)(hx:Qc8 x)(m:List (Int×D))(L:Int->List Qm)(hm:Qcn m L)(ch:Nat->Option (List Nat))(hch: ∀k:Nat,(ch k).getD []=(L k).map fun e=>e.2.toNat):
 Pure A2 83 [.pd (rFiles s t x m)] (dB (Qcm (Qr (Qt x)) ch (Qax (Qt x)) x.length)):=by
 have hlk: ∀k,Qr (Qt x) k=2->k<x.length:=fun k hk=>by
  have:=QdP (ns:=Qt x) (k:=k) (by omega);rwa [AD] at this
 obtain⟨kind,hkind⟩: ∃kind,kind=Qr (Qt x):=⟨_,rfl⟩;obtain⟨res,hres⟩: ∃res,res=Qcm kind ch (Qax (Qt x)) x.length:=⟨_,rfl⟩;rw[<-hkind] at hlk⊢;rw[<-hres];have hB0:AL (Gr.bfs kind ch (1+Gr.left kind x.length []) [0] []=none->res=false):=Pm.hid fun h=>by rw[hres,Qcm,h]
 have hB1:AL (∀nm,Gr.bfs kind ch (1+Gr.left kind x.length []) [0] []=some nm->res=(A5 x.length).all fun k=>decide (k=0)||decide (kind k=0)||decide (nm.count k=Qax (Qt x) k)):=Pm.hid fun nm h=>by rw[hres,Qcm,h]
 clear hres;have hll:=Qtq kind x.length [];obtain⟨F0,hF0⟩: ∃F0,F0=1+Gr.left kind x.length []:=⟨_,rfl⟩;have hF17:F0<=17:=by omega
 rw[<-hF0] at hB0 hB1;have hhk:=Pm.hid hkind
 replace hlk:=Pm.hid hlk
 replace hF0:=Pm.hid hF0
 refine kB ?_
 repeat' first|refine kS ?_|refine stepS2 (Qf0) (k:=?_)|refine kU ?_|fail
 refine Qq (fun mm st=> ∃(g:Nat) (pre todo nm:List Nat) (mp:List (Int×D)),AL (Gr.bfs kind ch F0 [0] []=Gr.bfs kind ch mm todo nm)/\AL (todo.length+Gr.left kind x.length nm<=mm)/\AL (nm.length+12*mm<=12*F0)/\AL (QcM mp nm)/\
  (todo≠[]/\st=⟨89,[(0,.d (.pd (rFiles s t x m))),(3,.mp 0 0),(4,.osl 1 g pre.length todo.length)],[.mp 0 (imap mp),.arr g 1 3 ((pre++todo).map fun n=>[dI (n:Nat)])]⟩∨
   todo=[]/\st=⟨89,[(0,.d (.pd (rFiles s t x m))),(3,.mp 0 0),(4,.d (.sl false 1 []))],[.mp 0 (imap mp),.arr g 1 3 (pre.map fun n=>[dI (n:Nat)])]⟩)) [0,3,4] 2 F0
  ⟨0,[],[0],[],[],Pm.hid rfl,Pm.hid (by rw[hF0.out];simp),Pm.hid (by simp),Pm.hid Qtj,.inl ⟨by simp,by simp[keepE,go_sem,imap]⟩⟩ (round:=?_)
 rintro mm st ⟨g,pre,todo,nm,mp,hR,hlf,hnl,hN,hst⟩;rcases hst with⟨hne,rfl⟩|⟨rfl,rfl⟩;rotate_left
 ·have hn2:Gr.bfs kind ch F0 [0] []=some nm:=by rw[hR.out];unfold Gr.bfs;rfl
  have hr1:=Pm.hid (hB1.out nm hn2);clear hB0 hB1 hR hlf hn2 hm hch hlk hF0;have hcb: ∀k,(nm.count k:Nat)<=nm.length:=fun k=>AE
  repeat' first|refine kS ?_|refine qS (Qdm rfl) ?_|refine kU ?_|fail
  refine Qq (fun mm st=> ∃k,k<=x.length/\mm=x.length -k/\AL ((A5 k).all (fun k=>decide (k=0)||decide (kind k=0)||decide (nm.count k=Qax (Qt x) k))=true)/\
   st=⟨89,[(65,.d (tNds x)),(66,.d (dI x.length)),(67,.d (dI k)),(3,.mp 0 0)],[.mp 0 (imap mp)]⟩) [65,66,67,3] 1 x.length ⟨0,by omega,rfl,Pm.hid rfl,by simp[keepE,go_sem]⟩ (round:=?_)
  rintro m2 st ⟨k,hk,rfl,hA,rfl⟩
  repeat refine kG ?_
  cases q3:decide ((k:Int)<(x.length:Int))
  ·repeat refine kA ?_
   refine Qb (hx:=?_);have:k=x.length:=by simp at q3;omega
   rw[hr1.out,<-this,hA.out]
  have hk2:k<x.length:=by simp at q3;omega
  obtain⟨y,hy⟩: ∃y,x[k]? =some y:=⟨_,A6 hk2⟩;have hyd:x.getD k []=y:=by rw[List.getD_eq_getElem?_getD,hy];rfl
  have hr:=Qs (f:=fun x=>[QaK x]) hy;have T:AL ((decide (k=0)||decide (kind k=0)||decide (nm.count k=Qax (Qt x) k))=true->(A5 (k+1)).all (fun k=>decide (k=0)||decide (kind k=0)||decide (nm.count k=Qax (Qt x) k))=true):=fun h=>Pl.Qdo (p:=fun k=>decide (k=0)||decide (kind k=0)||decide (nm.count k=Qax (Qt x) k)) hA.out h
  have F:AL ((decide (k=0)||decide (kind k=0)||decide (nm.count k=Qax (Qt x) k))=false->res=false):=fun h=>by
   rw[hr1.out,Pl.Qdj (p:=fun k=>decide (k=0)||decide (kind k=0)||decide (nm.count k=Qax (Qt x) k)) hk2 h]
  have hlook:=hN.out k;have hkz:=QiG hx k;have hnx:=QeF (x:=x) k;rw[hyd] at hkz hnx;rw[<-hkind] at hkz;rcases Qfa hx k with⟨h1,_⟩|⟨h1,_,hnb⟩
  ·rw[hyd] at h1
   have e:QaK y= .v (.pointer none):=by unfold QaK;rw[if_pos h1]
   rw[e] at hr;have ht:=Pm.hid (T.out (by rw[decide_eq_true (p:=kind k=0) (hkz.2 h1)];simp));clear T F hA hr1 hkz hnx hyd hy hx
   repeat' first|refine kS ?_|refine qS (iy hr) ?_|refine qD (QlF A4 rfl) ?_|refine kU ?_|fail
   all_goals first|exfalso;simp at*;done|exact Qg (x.length -(k+1)) (by omega) ⟨k+1,by omega,rfl,ht,by simp[keepE,go_sem]⟩
  ·rw[hyd] at h1
   have e:QaK y= .pd (rNode (Qo y).1):=by unfold QaK;rw[if_neg h1]
   rw[e] at hr;rw[hnx] at hnb;have hlink:Qax (Qt x) k=(Qo y).1.links.toNat:=by unfold Qax;rw[hnx]
   have hkn: ¬kind k=0:=fun h=>h1 (hkz.1 h)
   rw[hlink,decide_eq_false hkn] at T F;have hlb:=hnb.links;clear hA hr1 hkz hnx hyd hy hx e hlink hnb;generalize (Qo y).1=N at*;obtain⟨kd,links,size,⟨⟨p1,p2,p3,p4,p5⟩,depth,many⟩⟩:=N;simp only at T F hlb;obtain⟨lk,rfl⟩:=AC (show 0<=links by omega);rw[A7] at T F;generalize AP k nm=cn at*
   repeat' first|refine kS ?_|refine qS (iy hr) ?_|refine qD (Qkt A4 rfl) ?_|refine qD (Qdm rfl) ?_|refine qD (Qer A1 A0 (z:= .int .i64 0) (by kernel_rfl) rfl rfl rfl hlook) ?_|refine kU ?_|refine kV ?_ ?_<;>intro q|fail
   all_goals first
    |(have h9:((decide (k=0)||false||decide (cn=lk))=false):=by
       rw[decide_eq_false (show ¬k=0 by clear T F hlook hr hN hnl hhk;simp at*;omega),decide_eq_false (show ¬cn=lk by clear T F hlook hr hN hnl hhk;simp at*;omega)];rfl
      refine Qb (hx:=?_)
      rw[F.out h9];done)
    |(have h9:((decide (k=0)||false||decide (cn=lk))=true):=by
       by_cases hk0:k=0
       ·rw[decide_eq_true hk0];rfl
       ·rw[decide_eq_true (show cn=lk by clear T F hlook hr hN hnl hhk;simp at*;omega)];simp
      exact Qg (x.length -(k+1)) (by omega) ⟨k+1,by omega,rfl,Pm.hid (T.out h9),by simp[keepE,go_sem]⟩)
 obtain⟨f,td,rfl⟩:=A9 hne;obtain⟨m0,rfl⟩: ∃m0,mm=m0+1:=⟨mm -1,by have:=hlf.out;simp only[AK] at this;omega⟩;have hfr:((pre++f::td).map fun n=>[dI (n:Nat)])[pre.length+((0:Int)).toNat]? =some [dI (f:Nat)]:=by simp
 obtain⟨hE,hg⟩:=hm (f:Nat) (by omega);have hcf:=hch f;generalize L (f:Nat)=es at*
 have hst:Gr.bfs kind ch F0 [0] []=match Gr.inner kind (es.map fun e=>e.2.toNat) td nm with|none=>none|some (t',nm')=>Gr.bfs kind ch m0 t' nm':=by
  rw[hR.out,<-hcf]
  conv=>lhs;unfold Gr.bfs
  rfl
 replace hst:=Pm.hid hst
 have hes:es.length<=12:=by unfold Qaa at hE;rw[A8,decide_eq_true_eq] at hE;exact hE.2
 have hids:=Pm.hid (ent_b hE);have hll0:=Pm.hid hll;have hlf2:=Pm.hid (show td.length+Gr.left kind x.length nm<=m0 by have:=hlf.out;simp only[AK] at this;omega)
 have hbnd:nm.length<=204/\td.length<=17:=by
  have:=hnl.out;have:=hlf2.out;omega
 clear hE hcf hB1 hR hm hch hlf hne hll
 have hg:mget m (f:Nat)=some (.sl true 2 (es.map rEnt))∨mget m (f:Nat)=none/\es.map rEnt=[]:=by
  rcases hg with h|⟨h1,h2⟩
  ·exact .inl h
  ·exact .inr ⟨h1,by rw[h2];rfl⟩
 repeat' first|refine kS ?_|refine qD (Qdm rfl) ?_|refine qS (Qdm rfl) ?_|refine qD (Qdg Ty.h rfl rfl hfr rfl) ?_|refine qD (QhL AH A0 (by kernel_rfl) rfl rfl hg) ?_|refine kU ?_|refine kV ?_ ?_<;>intro q|fail
 rotate_left
 ·exfalso;simp at*
 clear hfr hg
 refine Qq (fun m2 st=> ∃(j g:Nat) (pre t2 nm2:List Nat) (mp:List (Int×D)),j<=es.length/\m2=es.length -j/\AL (Gr.inner kind (es.map fun e=>e.2.toNat) td nm=Gr.inner kind ((es.drop j).map fun e=>e.2.toNat) t2 nm2)/\nm2.length=nm.length+j/\t2.length<=td.length+j/\AL (QcM mp nm2)/\
  st=⟨89,[(25,.d (tEnts es)),(26,.d (dI es.length)),(27,.d (dI j)),(0,.d (.pd (rFiles s t x m))),(3,.mp 0 0),(4,.osl 1 g pre.length (t2.length+1))],[.mp 0 (imap mp),.arr g 1 3 ((pre++f::t2).map fun n=>[dI (n:Nat)])]⟩) [25,26,27,0,3,4] 2 es.length ⟨0,g,pre,td,nm,mp,by omega,rfl,Pm.hid rfl,rfl,by omega,hN,by simp[keepE,go_sem]⟩ (round:=?_)
 clear hN;rintro m2 st ⟨j,g,pre,t2,nm2,mp,hj,rfl,hI,hn2,ht2,hN,rfl⟩
 repeat refine kG ?_
 cases q3:decide ((j:Int)<(es.length:Int))
 ·have hje:j=es.length:=by simp at q3;omega
  have hin:Gr.inner kind (es.map fun e=>e.2.toNat) td nm=some (t2,nm2):=by rw[hI.out,hje,List.drop_length];rfl
  have hlf3:=Pm.hid (Gr.Qgn hlk.out hin);have hst2:AL (Gr.bfs kind ch F0 [0] []=Gr.bfs kind ch m0 t2 nm2):=Pm.hid (by rw[hst.out,hin]);clear hst hin hI;cases t2 with
  |nil=>
   have hrw:((pre++[f]).map fun n=>[dI (n:Nat)])=(pre++f::[]).map fun n=>[dI (n:Nat)]:=rfl
   repeat' first|refine kS ?_|refine qS (Qpj rfl rfl rfl rfl rfl (by omega) (by simp)) ?_|refine kU ?_|fail
   refine Qg m0 (by omega) ⟨g,pre++[f],[],nm2,mp,hst2,Pm.hid ?_,Pm.hid ?_,hN,.inr ⟨rfl,?_⟩⟩
   ·have:=hlf3.out;have:=hlf2.out;omega
   ·have:=hnl.out;omega
   ·simp[keepE,go_sem]
  |cons a t3=>
   repeat' first|refine kS ?_|refine qS (QlE rfl rfl rfl rfl rfl (by omega) (by simp;omega)) ?_|refine kU ?_|fail
   refine Qg m0 (by omega) ⟨g,pre++[f],a::t3,nm2,mp,hst2,Pm.hid ?_,Pm.hid ?_,hN,.inl ⟨by simp,?_⟩⟩
   ·have:=hlf3.out;have:=hlf2.out;omega
   ·have:=hnl.out;omega
   ·simp[keepE,go_sem]
 have hj2:j<es.length:=by simp at q3;omega
 obtain⟨e,he⟩: ∃e,es[j]? =some e:=⟨_,A6 hj2⟩;have hr:=Qs (f:=rEnt) he;have heb:=(hids.out e (AF he)).2;have hdr:es.drop j=e::es.drop (j+1):=by rw[List.drop_eq_getElem_cons hj2,(List.getElem?_eq_some_iff.1 he).2]
 replace hI:=hI.out
 rw[hdr,List.map_cons] at hI;obtain⟨nmE,id⟩:=e;simp only at heb hI;obtain⟨kid,rfl⟩:=AC (show 0<=id by omega);rw[A7] at hI
 replace hI:=Pm.hid hI
 have c1:=bNodeAt x (kid:Int) (by omega);rw[QuA hx kid,<-hkind] at c1;have hlook:=hN.out kid;have hcb:nm2.count kid<=nm2.length:=AE;have hNs:=Pm.hid (QqR hN.out kid);clear he hdr hN
 by_cases hk0:kind kid=0
 ·rw[if_pos hk0] at c1
  have hbad:=Pm.hid (hB0.out (by rw[hst.out,hI.out,Qpu hk0]));clear hst hI hNs
  repeat' first|refine kS ?_|refine qS (iy hr) ?_|(show AWP _ (.region 8 _ _) _ _;refine(Qa 2 (h:=Fg.awp_drawF (id:=8) [0,1,2,3,4,5,6,7,8,9] [11] ?_)))|refine(Fg.aw_fltL (hl:=fun H=>Qdm rfl) (k:=?_))|refine(Fg.aw_fltL (hl:=fun H=>Qdr cK c1 rfl) (k:=?_))|refine kU ?_|fail
  refine Qb (hx:=?_);rw[hbad.out]
 rw[if_neg hk0] at c1;have hkN:kind kid=((Qt x).getD kid Qd).kind.toNat:=by rw[hkind];rfl
 have hNB:NodeB ((Qt x).getD kid Qd):=by
  rcases Qfa hx kid with⟨_,h2⟩|⟨_,_,h2⟩
  ·rw[h2] at hkN;exact absurd hkN hk0
  ·exact h2
 have hNk:=hNB.kind;clear hNB;generalize (Qt x).getD kid Qd=N at*;obtain⟨kd,links,size,⟨⟨p1,p2,p3,p4,p5⟩,depth,many⟩⟩:=N;simp only at hNk hkN c1;generalize hcn:AP kid nm2=cn at*;have hlook2:(mget (mset mp (kid:Int) (dI ((cn:Int)+1))) (kid:Int)).getD (.v (.int .i64 0))=dI ((cn:Int)+1):=by rw[QeU];rfl
 rcases hNk with rfl|rfl
 ·have hk1:kind kid=1:=hkN
  have hI2:=hI.out;rw[Qps hk1] at hI2
  replace hI2:=Pm.hid hI2
  clear hI
  repeat' first|refine kS ?_|refine qS (iy hr) ?_|(show AWP _ (.region 8 _ _) _ _;refine(Qa 2 (h:=Fg.awp_drawF (id:=8) [0,1,2,3,4,5,6,7,8,9] [11] ?_)))|refine(Fg.aw_fltL (hl:=fun H=>Qdm rfl) (k:=?_))|refine(Fg.aw_fltL (hl:=fun H=>Qdr cK c1 rfl) (k:=?_))|refine qS (Qer A1 A0 (z:= .int .i64 0) (by kernel_rfl) rfl rfl rfl hlook) ?_|refine(Qih A1 A0 (kk:=?_))|refine kU ?_|fail
  all_goals first|exfalso;simp at*;done|refine Qg (es.length -(j+1)) (by omega) ⟨j+1,g,pre,t2,nm2++[kid],_,by omega,rfl,hI2,by simp;omega,by omega,hNs,by simp[keepE,go_sem]⟩
 have hk2:kind kid=2:=hkN
 by_cases hc0:cn=0
 rotate_left
 ·have hbad:=Pm.hid (hB0.out (by rw[hst.out,hI.out,Qpt hk2 (by omega)]))
  clear hst hI hNs
  repeat' first|refine kS ?_|refine qS (iy hr) ?_|(show AWP _ (.region 8 _ _) _ _;refine(Qa 2 (h:=Fg.awp_drawF (id:=8) [0,1,2,3,4,5,6,7,8,9] [11] ?_)))|refine(Fg.aw_fltL (hl:=fun H=>Qdm rfl) (k:=?_))|refine(Fg.aw_fltL (hl:=fun H=>Qdr cK c1 rfl) (k:=?_))|refine qS (Qer A1 A0 (z:= .int .i64 0) (by kernel_rfl) rfl rfl rfl hlook) ?_|refine(Qih A1 A0 (kk:=?_))|refine qS (Qer A1 A0 (z:= .int .i64 0) (by kernel_rfl) rfl rfl rfl hlook2) ?_|refine kU ?_|refine kV ?_ ?_<;>intro q|fail
  all_goals first
   |(exfalso;simp only[decide_eq_true_eq,decide_eq_false_iff_not] at*;omega)
   |(refine Qb (hx:=?_)
     rw[hbad.out];done)
 have hI2:=hI.out;rw[Qrq hk2 (by omega)] at hI2
 replace hI2:=Pm.hid hI2
 clear hI
 repeat' first|refine kS ?_|refine qS (iy hr) ?_|(show AWP _ (.region 8 _ _) _ _;refine(Qa 2 (h:=Fg.awp_drawF (id:=8) [0,1,2,3,4,5,6,7,8,9] [11] ?_)))|refine(Fg.aw_fltL (hl:=fun H=>Qdm rfl) (k:=?_))|refine(Fg.aw_fltL (hl:=fun H=>Qdr cK c1 rfl) (k:=?_))|refine qS (Qer A1 A0 (z:= .int .i64 0) (by kernel_rfl) rfl rfl rfl hlook) ?_|refine(Qih A1 A0 (kk:=?_))|refine qS (Qer A1 A0 (z:= .int .i64 0) (by kernel_rfl) rfl rfl rfl hlook2) ?_|refine(aw_appO (newrows:=[[dI (kid:Nat)]]) rfl (hol:=?_) (hx:=Qqx rfl rfl rfl (by decide) ?_) (hnp:=?_) (hb:=?_) (hm:=?_) (k1:=?_) (k2:=?_))|refine kU ?_|refine kV ?_ ?_<;>intro q|fail
 all_goals first
  |(exfalso;simp only[decide_eq_true_eq] at*;omega)
  |(simp;done)
  |(simp;omega)
  |(intro r hr d hd
    obtain rfl:=AA.1 hr;obtain rfl:=AA.1 hd
    rfl)
  |(refine Qg (es.length -(j+1)) (by omega) ⟨j+1,g+1,pre,t2++[kid],nm2++[kid],_,by omega,rfl,hI2,by simp;omega,by simp;omega,hNs,?_⟩;simp[keepE,go_sem];done)
  |(refine Qg (es.length -(j+1)) (by omega) ⟨j+1,g+1,[],t2++[kid],nm2++[kid],_,by omega,rfl,hI2,by simp;omega,by simp;omega,hNs,?_⟩;simp[keepE,go_sem];done)
def QaI(s:Pm.Store)(x:List (List UInt8))(i:Int):List Qm:=(Qf s ((Qt x).getD i.toNat Qd)).1
def QaJ(s:Pm.Store)(x:List (List UInt8)):Nat->List (Int×D)
 |0=>[]
 |k+1=>if Qr (Qt x) k=2 then mset (QaJ s x k) (k:Nat) (tEnts (QaI s x (k:Nat))) else QaJ s x k
theorem Qos(s:Pm.Store)(x:List (List UInt8)): ∀(k j:Nat),mget (QaJ s x k) (j:Int)=if j<k/\Qr (Qt x) j=2 then some (tEnts (QaI s x (j:Nat))) else none
 |0,j=>by grind [QaJ,mget]
 |k+1,j=>by
  have ih:=Qos s x k j
  grind [QaJ,QeU,QhJ]
theorem entL_ok(s:Pm.Store)(x:List (List UInt8))(i:Int):Qaa (QaI s x i)=true:=by
 unfold QaI;rcases Qd4 s ((Qt x).getD i.toNat Qd) with h|h
 ·exact h.2
 ·rw[h];rfl
theorem Qnp(s:Pm.Store)(x:List (List UInt8)):Qcn (QaJ s x x.length) (QaI s x):=fun n hn=>by
 grind [entL_ok,Qos,Qr,QaI,A7,Qd4,Qd,QfV]
def Qak(s:Pm.Store)(x:List (List UInt8))(k:Nat):Bool:=
 decide (Qr (Qt x) k=0)||(decide (Qr (Qt x) k=1)&&Qac s ((Qt x).getD k Qd))||(decide (Qr (Qt x) k=2)&&(Qf s ((Qt x).getD k Qd)).2)
def Qc0(s:Pm.Store)(t:Pl.Tree):Bool:=Qav s t&&decide (Qr (Qt (Qc s t)) 0=2)&&(A5 (Qc s t).length).all (Qak s (Qc s t))
def QcA(s:Pm.Store)(x:List (List UInt8)):Nat->Option (List Nat):=Gr.chOf (QaO (Qt x) (Qf s))
def Qcr(s:Pm.Store)(x:List (List UInt8)):Bool:=Qcm (Qr (Qt x)) (QcA s x) (Qax (Qt x)) x.length
def QbM(s:Pm.Store)(t:Pl.Tree):D:=
 if Qc0 s t then .tup [.pd (rFiles s t (Qc s t) (QaJ s (Qc s t) (Qc s t).length)),dB (Qcr s (Qc s t))] else .tup [.v (.pointer none),dB false]
theorem Qsi(s:Pm.Store)(x:List (List UInt8))(k:Nat):(QcA s x k).getD []=(QaI s x (k:Nat)).map fun e=>e.2.toNat:=by
 unfold QcA Gr.chOf QaO QaI;rw[A7];rcases Qd4 s ((Qt x).getD k Qd) with h|h
 ·simp_all
 grind
theorem QgN{s:Pm.Store}{t:Pl.Tree}(h:Qav s t=true):Qc8 (Qc s t)/\(Qc s t).length<=16/\ ∀k,Qr (Qt (Qc s t)) k≠0->QF ((Qt (Qc s t)).getD k Qd)=true:=by
 unfold Qav at h;rw[A8,List.all_eq_true] at h;have ht:=Qdx h.1
 have hN: ∀y∈Qc s t,y=[]∨QF (Qo y).1=true:=fun y hy=>by
  have:=h.2 y hy;rw[Bool.or_eq_true,A8] at this;rcases this with h|h
  ·grind
  ·rcases Qgh y with g|g
   ·exact .inr g.1.1
   grind
 refine⟨fun y hy=>(hN y hy).imp id fun g=>Qeh g,?_,fun k hk=>?_⟩
 ·rw[texts_len s ht];have:=ht.manyHi;omega
 ·rw[QeF]
  have hlt:k<(Qc s t).length:=by
   have:=QdP hk;grind
  have hm:(Qc s t).getD k []∈Qc s t:=by
   grind
  rcases hN _ hm with g|g
  ·exfalso;apply hk;unfold Qr;rw[QeF,g,QmB];rfl
  ·exact g
theorem Qr1(s:Pm.Store)(hg:QU s)(n:Qk):(QbC s n).1.length<=1000000:=by
 unfold QbC;split
 ·rename_i h
  rw[A8] at h;unfold QaL;split
  ·have ht:=Qdx h.1
   have:=flat_le (m:=128) (l:=Qc s n.tree) fun y hy=>by
    grind [Qc,Qiy]
   have h2:=texts_len s ht;have h3:=ht.manyHi
   grind
  ·simp
 ·simp
theorem Qp4{s:Pm.Store}{n:Qk}(h1:QF n=true)(h2:n.kind=2):Qf s n=if(QbC s n).2=true then QbW (QbC s n).1 else([],false):=by grind [Qf,QbC]
theorem QpG(s:Pm.Store)(hg:QU s)(htx:0<=s.2.2.1)(t:Pl.Tree)(hT: ∀n,QF n=true->n.kind=1->Pure A2 20 [.pd (rSt s),dNode n] (.tup [.any,dB (Qac s n)])):
 Pure A2 35 [.pd (rSt s),dTree t] (QbM s t):=by
 have c1:=bNodes s hg htx t;have hd:=Pm.hid (QbM.eq_def s t);have hr:AL (Qc0 s t=(Qav s t&&decide (Qr (Qt (Qc s t)) 0=2)&&(A5 (Qc s t).length).all (Qak s (Qc s t)))):=Pm.hid rfl;generalize QbM s t=res at*;cases htab:Qav s t
 ·rw[htab] at c1 hr
  have hbad:=Pm.hid (hd.out.trans (if_neg (by rw[hr.out];simp)));simp only[AG,if_false] at c1;refine kE ?_;refine Qa 0 (h:=?_)
  repeat refine kA ?_
  refine Qb (hx:=?_);rw[hbad.out]
 obtain⟨hx,hx16,hnok⟩:=QgN htab;rw[htab] at c1 hr;simp only[if_true] at c1;generalize Qc s t=x at*;have c0:=bNodeAt x 0 (by omega);rw[show QcN x 0=_ from QuA hx 0] at c0
 by_cases h02:Qr (Qt x) 0=2
 rotate_left
 ·have hbad:=Pm.hid (hd.out.trans (if_neg (by rw[hr.out,decide_eq_false h02];simp)))
  by_cases h00:Qr (Qt x) 0=0
  ·rw[if_pos h00] at c0
   simp only at c0;clear hd hr hT;refine kE ?_;refine Qa 0 (h:=?_)
   repeat' first|refine kS ?_|refine stepS2 (Qf0) (k:=?_)|refine kU ?_|fail
   all_goals first
    |(refine Qb (hx:=?_)
      rw[hbad.out];done)
  ·rw[if_neg h00] at c0
   have hk1:((Qt x).getD 0 Qd).kind≠2:=fun h=>h02 (by unfold Qr;omega)
   generalize (Qt x).getD 0 Qd=N at*;obtain⟨kd,links,size,⟨⟨p1,p2,p3,p4,p5⟩,depth,many⟩⟩:=N;simp only at c0 hk1;have hk2:(kd==2)=false:=by grind
   clear hd hr hT;refine kE ?_;refine Qa 0 (h:=?_)
   repeat' first|refine kS ?_|refine stepS2 (Qf0) (k:=?_)|refine kU ?_|refine kV ?_ ?_<;>intro q|fail
   all_goals first
    |(refine Qb (hx:=?_)
      rw[hbad.out];done)
    |(exfalso;grind)
 rw[if_neg (by omega)] at c0
 have hk0:((Qt x).getD 0 Qd).kind=2:=by
  rcases Qfa hx 0 with⟨_,h⟩|⟨_,_,h⟩
  ·unfold Qr at h02;omega
  ·have:=h.kind;unfold Qr at h02;omega
 have hG:AL ((A5 x.length).all (Qak s x)=true->res= .tup [.pd (rFiles s t x (QaJ s x x.length)),dB (Qcr s x)]):=Pm.hid fun h=>hd.out.trans (if_pos (by rw[hr.out,decide_eq_true h02,h];rfl))
 have hB:AL ((A5 x.length).all (Qak s x)=false->res= .tup [.v (.pointer none),dB false]):=Pm.hid fun h=>hd.out.trans (if_neg (by rw[hr.out,h];simp))
 have c9:=bLinked s t x hx16 hx _ _ (Qnp s x) (QcA s x) (fun k=>Qsi s x k);rw[show Qcm (Qr (Qt x)) (QcA s x) (Qax (Qt x)) x.length=Qcr s x from rfl] at c9;clear hd hr;generalize hN0:(Qt x).getD 0 Qd=N at c0 hk0;obtain⟨kd,links,size,⟨⟨p1,p2,p3,p4,p5⟩,depth,many⟩⟩:=N;simp only at c0 hk0;subst hk0;clear hN0;refine kE ?_;refine Qa 0 (h:=?_)
 repeat' first|refine kS ?_|refine stepS2 (Qf0) (k:=?_)|refine kU ?_|fail
 refine Qq (fun mm st=> ∃k:Nat,k<=x.length/\mm=x.length -k/\AL ((A5 k).all (Qak s x)=true)/\
  st=⟨98,[(45,.d (tNds x)),(46,.d (dI x.length)),(47,.d (dI k)),(0,.d (.pd (rSt s))),(8,.ptr 2 0 0)],
   [.row 1 [],.mp 0 (imap (QaJ s x k)),.row 0 [.d (.pd (rSt s)),.d (dI t.root.pat),.d (dI t.root.birth),.d (dI t.root.size),.d (dI t.root.sum),.d (dI t.root.level),.d (dI t.depth),.d (dI t.many),.d (tNds x),.mp 1 0]]⟩)
  [45,46,47,0,8] 3 x.length ⟨0,by omega,rfl,Pm.hid rfl,by simp[keepE,go_sem,QaJ,imap]⟩ (round:=?_)
 rintro mm st ⟨k,hk,rfl,hA,rfl⟩
 repeat refine kG ?_
 cases q3:decide ((k:Int)<(x.length:Int))
 ·have hk3:k=x.length:=by grind
  have hyes:=Pm.hid (hG.out (by rw[<-hk3];exact hA.out));clear hG hB hA;rw[<-hk3] at hyes c9;refine Qa 1 (h:=?_);refine Qa 2 (h:=?_)
  repeat refine kA ?_
  refine Qb (hx:=?_);rw[hyes.out]
 have hk2:k<x.length:=by grind
 obtain⟨y,hy⟩: ∃y,x[k]? =some y:=⟨_,A6 hk2⟩;have hyd:x.getD k []=y:=by grind
 have hr:=Qs (f:=fun x=>[QaK x]) hy;have T:AL (Qak s x k=true->(A5 (k+1)).all (Qak s x)=true):=fun h=>Pl.Qdo (p:=Qak s x) hA.out h
 have F:AL (Qak s x k=false->res= .tup [.v (.pointer none),dB false]):=fun h=>hB.out (Pl.Qdj (p:=Qak s x) hk2 h)
 have hdm:AL (QaJ s x (k+1)=if Qr (Qt x) k=2 then mset (QaJ s x k) (k:Nat) (tEnts (QaI s x (k:Nat))) else QaJ s x k):=Pm.hid (by conv=>lhs;unfold QaJ);have hgd:AL (Qak s x k=(decide (Qr (Qt x) k=0)||(decide (Qr (Qt x) k=1)&&Qac s ((Qt x).getD k Qd))||(decide (Qr (Qt x) k=2)&&(Qf s ((Qt x).getD k Qd)).2))):=Pm.hid rfl;have hnx:=QeF (x:=x) k;rw[hyd] at hnx;clear hG hB hA c0 c1 c9;rcases Qfa hx k with⟨h1,h2⟩|⟨h1,_,hnb⟩
 ·rw[hyd] at h1
  have e:QaK y= .v (.pointer none):=by unfold QaK;grind
  rw[e] at hr;have hk0:Qr (Qt x) k=0:=by unfold Qr;rw[h2];rfl
  have ht:=Pm.hid (T.out (by rw[hgd.out,hk0];rfl));have hdm2:AL (QaJ s x (k+1)=QaJ s x k):=Pm.hid (by rw[hdm.out,if_neg (by omega)]);clear T F hdm hgd hnx hyd hy hx hT hnok
  repeat' first|refine kS ?_|refine qS (iy hr) ?_|refine qS (Qg8 A4 rfl) ?_|refine kU ?_|fail
  all_goals first
   |(exfalso;simp at*;done)
   |(refine Qg (x.length -(k+1)) (by omega) ⟨k+1,by omega,rfl,ht,?_⟩
     rw[hdm2.out]
     simp[keepE,go_sem];done)
 rw[hyd] at h1;have e:QaK y= .pd (rNode (Qo y).1):=by unfold QaK;grind
 rw[e] at hr;have hkN:Qr (Qt x) k=(Qo y).1.kind.toNat:=by unfold Qr;rw[hnx]
 have hne0:Qr (Qt x) k≠0:=by rw[hkN,<-hnx];have:=hnb.kind;omega
 have hno:=hnok k hne0;have hel:AL (QaI s x (k:Nat)=(Qf s (Qo y).1).1):=Pm.hid (by unfold QaI;simp_all);rw[hnx] at hnb hgd hno;have hkd:=hnb.kind;clear hnx hyd hy e hnok hnb;generalize (Qo y).1=N at*;rcases hkd with hkd|hkd
 ·have hk1:Qr (Qt x) k=1:=by omega
  have c2:=hT N hno hkd;have hgf:Qak s x k=Qac s N:=by rw[hgd.out,hk1];simp
  rw[hgf] at T F;have hdm2:AL (QaJ s x (k+1)=QaJ s x k):=Pm.hid (by rw[hdm.out,if_neg (by omega)]);clear hgf hgd hdm hel hT hx;generalize Qac s N=fo at*;obtain⟨kd,links,size,⟨⟨p1,p2,p3,p4,p5⟩,depth,many⟩⟩:=N;simp only at hkd;subst hkd
  repeat' first|refine kS ?_|refine qS (iy hr) ?_|refine qS (QeR A4 rfl) ?_|refine qS (Qdm rfl) ?_|refine kU ?_|refine kV ?_ ?_<;>intro q|fail
  all_goals first
   |(exfalso;simp at*;done)
   |(refine Qg (x.length -(k+1)) (by omega) ⟨k+1,by omega,rfl,Pm.hid (T.out (by simp_all)),?_⟩
     rw[hdm2.out]
     simp[keepE,go_sem];done)
   |(refine Qb (hx:=?_)
     rw[F.out (by simp_all)];done)
 ·have hk2':Qr (Qt x) k=2:=by omega
  have c3:=Qnw s hg htx N;have c4:=Qnz (QbC s N).1 (Qr1 s hg N);have hgf:Qak s x k=(Qf s N).2:=by rw[hgd.out,hk2'];simp
  rw[hgf] at T F;have hen:=Qp4 (s:=s) hno hkd;have hdm2:AL (QaJ s x (k+1)=mset (QaJ s x k) (k:Nat) (tEnts (Qf s N).1)):=Pm.hid (by rw[hdm.out,if_pos hk2',hel.out]);rw[hen] at T F hdm2;clear hgf hgd hdm hel hT hx hen;generalize QbC s N=ft at*;obtain⟨ftext,fine⟩:=ft;simp only at c3 c4 T F hdm2;generalize QbW ftext=eg at*;obtain⟨list,good⟩:=eg;simp only at c4 T F hdm2;obtain⟨kd,links,size,⟨⟨p1,p2,p3,p4,p5⟩,depth,many⟩⟩:=N;simp only at hkd;subst hkd;cases fine
  all_goals simp only[AG,if_false,if_true] at T F hdm2
  all_goals
   repeat' first|refine kS ?_|refine qS (iy hr) ?_|refine qS (QeR A4 rfl) ?_|refine qS (Qdm rfl) ?_|refine(Qih AH A0 (kk:=?_))|refine kU ?_|refine kV ?_ ?_<;>intro q|fail
  all_goals first
   |(exfalso;simp at*;done)
   |(refine Qg (x.length -(k+1)) (by omega) ⟨k+1,by omega,rfl,Pm.hid (T.out (by simp_all)),?_⟩
     rw[hdm2.out]
     simp[keepE,go_sem];done)
   |(refine Qb (hx:=?_)
     rw[F.out (by simp_all)];done)
theorem fd_one{s:Pm.Store}{x:List (List UInt8)}{k:Nat}{L:List Nat}(h:Gr.FD (Qr (Qt x)) (QcA s x) [k] L):
 ∃L1,L=k::L1/\Gr.FD (Qr (Qt x)) (QcA s x) ((QaI s x (k:Nat)).map fun e=>e.2.toNat) L1/\Qr (Qt x) k≠0:=by
 cases h with
 |file hk h=>
  grind [QaI,Qd4,QfV,Qr]
 |dir hk hc h1 h2=>
  cases h2
  grind [Qsi]
def Qsw:Does A2 186 [.d (.v (.slice none 0 0))] [] [] (.osl 0 0 0 0) [.arr 0 1 9 []]:=by
 refine kL ?hpin fun gvs=>?_
 case hpin=>intro i C hC;simp at hC
 simp only[parA,gslot,AO,Nat.reduceAdd]
 repeat' first|refine kS ?_|refine qS (Qpi AI rfl) ?_|refine kU ?_|fail
 refine QeW 2 1 9 (h:=?_);refine Qev [2,1000000] 1 (H':=[.arr 0 1 9 []]) (hH:=fun R hR=>hR) (h:=?_);exact QdL (hx:=rfl) (hH:=rfl)
def Qsv(l:List (List UInt8))(hl:l.length<=1000000)(hn:l≠[]):Does A2 186 [.d (tStrs l)] [] [] (.osl 0 1 0 l.length) [.arr 1 1 9 (l.map fun s=>[dS s])]:=by
 refine kL ?hpin fun gvs=>?_
 case hpin=>intro i C hC;simp at hC
 simp only[parA,gslot,AO,Nat.reduceAdd];obtain⟨a,l,rfl⟩:=A9 hn
 repeat' first|refine kS ?_|refine qS (QmH AI rfl) ?_|refine(Qe1 Ty.h rfl Ty.h (hcell:=?_) (hb:=?_) (kk:=?_))|refine kU ?_|fail
 ·intro r hr d hd
  obtain⟨y,_,rfl⟩:=List.mem_map.1 hr;obtain rfl:=AA.1 hd;rfl
 ·show(0+((a::l).map fun s=>[dS s]).length)*16<=140737488355328
  rw[AD];omega
 ·refine Qev [2,1000000] 1 (H':=[.arr 1 1 9 ((a::l).map fun s=>[dS s])]) (hH:=fun R hR=>hR) (h:=?_)
  exact QdL (hx:=rfl) (hH:=rfl)
def QcG(names:List (List UInt8)):D:=if names=[] then .v (.slice none 0 0) else tStrs names
def QqB{P:Program}{c:Bool}{n:Nat}(h:Pure P f [.sl c n []] x):Pure P f [.v (.slice none 0 0)] x:=by
 intro B σ S H w cargs hB hS hl hr;refine h B σ S H w cargs hB hS hl fun i d v hd hv=>?_
 match i,hd with
 |0,hd=>
  obtain rfl:=A3 hd;have:=hr 0 _ v rfl hv;cases this;exact .slnil _ _ _ _
def Qc1(s:Pm.Store)(x:List (List UInt8))(p:List UInt8):Int:=match Q7 p with|none=> -1|some q=>(QbE (QaI s x) 0 q).getD (-1)
def QcI(s:Pm.Store):Prop:= ∀n,QF n=true->n.kind=1->Pure A2 20 [.pd (rSt s),dNode n] (.tup [.any,dB (Qac s n)])
def Qc2(s:Pm.Store)(t:Pl.Tree):D:=if QZ s then QbM s t else .tup [.v (.pointer none),dB false]
def Qo3(s:Pm.Store)(t:Pl.Tree)(cS:Pure A2 34 [dSt s] (dB (QZ s)))(hg:QZ s=true->QU s/\0<=s.2.2.1)(hT:QZ s=true->QcI s):
 Pure A2 18 [dSt s,dTree t] (Qc2 s t):=by
 unfold Qc2;cases h:QZ s
 ·rw[h] at cS
  rw[if_neg (by simp)];refine kE ?_;refine Qa 0 (h:=?_);refine Qa 1 (h:=?_)
  repeat refine kA ?_
  exact Qb (hx:=rfl)
 ·rw[h] at cS
  rw[if_pos rfl];have c:=QpG s (hg h).1 (hg h).2 t (hT h);obtain⟨a,b,hab⟩: ∃a b,QbM s t= .tup [a,b]:=by unfold QbM;split<;>exact⟨_,_,rfl⟩
  rw[hab] at c⊢;clear hab hg hT;refine kE ?_;refine Qa 0 (h:=?_);refine Qa 1 (h:=?_)
  repeat refine kA ?_
  exact Qb (hx:=rfl)
theorem QoW{S:Nat->Prop}{w:AM}{b:Bool}{l:List Pl.Ptr}{v:AJ}(h:RelD S w (.sl b 5 (l.map rPtr)) v)(hS: ∀b,S b->b<w.heap.size)(hx: ∀x∈l,Pm.PtrIn x):
 ∃A c,v= .slice A l.length c/\Pm.At w w.heap.size A l:=by
 generalize hr:l.map rPtr=rows at h;cases h with
 |slnil a cap=>
  have:l=[]:=by simp_all
  subst this;exact⟨_,_,rfl,fun h=>absurd h (by simp)⟩
 |sl _ _ _ bb o cap g hb hn hcap hc hrr=>
  subst hr;refine⟨_,_,by rw[AD],fun _=>⟨bb,o,rfl,hS bb hb,fun i x hi=>⟨Pm.ptrL x,⟨rfl,hx x (AF hi)⟩,fun j v hj=>?_⟩⟩⟩;have h1:(l.map rPtr)[i]? =some (rPtr x):=by grind
  have key: ∀(j:Nat) u,(rPtr x)[j]? =some (.v u)->w.cell? ⟨bb,o+i*5+j,none⟩=some u:=fun j u hu=>by
   have h2:=hc i j _ _ h1 hu;have h3:=hrr i j _ _ h1 hu;generalize g i j=y at*;cases h3;exact h2
  match j,hj with
  |0,hj=>obtain rfl:=A3 hj;exact key 0 _ rfl
  |1,hj=>obtain rfl:=A3 hj;exact key 1 _ rfl
  |2,hj=>obtain rfl:=A3 hj;exact key 2 _ rfl
  |3,hj=>obtain rfl:=A3 hj;exact key 3 _ rfl
  |4,hj=>obtain rfl:=A3 hj;exact key 4 _ rfl
structure AtW(B:Bs)(σ:Sg)(S:Nat->Prop)(H:List Blk)(w:AM)(s:Pm.Store)(a:AJ):Prop where
 gd:Gd B
 sm:Sm B σ S H w
 st:RelD S w (.pd (rSt s)) a
theorem AtW.call{B:Bs}{σ:Sg}{S:Nat->Prop}{H:List Blk}{w wk:AM}{s:Pm.Store}{a:AJ}(h:AtW B σ S H w s a)(hb:AB w.heap.size w wk)(vs:List AJ)(hp:Pure A2 f (.pd (rSt s)::args) x)(ha:args=vs.map D.ofV):
 AN A2 f (a::vs).toArray wk fun e w'=> ∃v,e= .returned v/\AB wk.heap.size wk w'/\RelD (fun b=>b<w'.heap.size) w' x v:=by
 have hs:=h.sm.below hb;subst ha;refine(hp B σ _ H wk (a::vs) h.gd hs.1 (by simp) fun i d v hd hv=>?_).mono fun e w' ⟨v,h1,h2,h3⟩=>⟨v,h1,h2,h3.mono (fun b hb=>?_) fun _ _=>rfl⟩
 ·match i,hd,hv with
  |0,hd,hv=>
   obtain rfl:=A3 hd;obtain rfl:=A3 hv;exact h.st.mono (fun b hb=> .inl hb) fun b hb'=>hb.block b ((h.sm.sUp b hb').1)
  |i+1,hd,hv=>
   grind [D.ofV_rel]
 ·have:=h2.size
  rcases hb with hb|hb
  ·have:=(hs.1.sUp b hb).1;omega
  omega
theorem AtW.call0{B:Bs}{σ:Sg}{S:Nat->Prop}{H:List Blk}{w wk:AM}{s:Pm.Store}{a:AJ}(h:AtW B σ S H w s a)(hb:AB w.heap.size w wk)(vs:List AJ)(hp:Pure A2 f args x)(ha:args=vs.map D.ofV):
 AN A2 f vs.toArray wk fun e w'=> ∃v,e= .returned v/\AB wk.heap.size wk w'/\RelD (fun b=>b<w'.heap.size) w' x v:=by
 have hs:=h.sm.below hb;subst ha;refine(hp B σ _ H wk vs h.gd hs.1 (by simp) fun i d v hd hv=>?_).mono fun e w' ⟨v,h1,h2,h3⟩=>⟨v,h1,h2,h3.mono (fun b hb=>?_) fun _ _=>rfl⟩
 ·grind [D.ofV_rel]
 ·have:=h2.size
  rcases hb with hb|hb
  ·have:=(hs.1.sUp b hb).1;omega
  ·exact hb.2
theorem rel_v{S:Nat->Prop}{w:AM}{x v:AJ}(h:RelD S w (.v x) v):v=x:=by cases h;rfl
theorem Qkl{S:Nat->Prop}{w:AM}{y:D}{v:AJ}(h:RelD S w (.tup [x,y]) v): ∃a b,v= .tuple #[a,b]/\RelD S w x a/\RelD S w y b:=by
 cases h with
 |tup _ cs hl h=>
  match cs,hl with
  |[a,b],_=>exact⟨a,b,rfl,h 0 _ _ rfl rfl,h 1 _ _ rfl rfl⟩
variable{B:Bs}{σ:Sg}{S:Nat->Prop}{H:List Blk}{w wk:AM}{s:Pm.Store}{a:AJ}
def nodeV(n:Qk):AJ:= .agg #[.int .i64 n.kind,.int .i64 n.links,.int .i64 n.size,.int .i64 n.tree.root.pat,.int .i64 n.tree.root.birth,.int .i64 n.tree.root.size,.int .i64 n.tree.root.sum,.int .i64 n.tree.root.level,.int .i64 n.tree.depth,.int .i64 n.tree.many]
def cNodeOk(h:AtW B σ S H w s a)(hb:AB w.heap.size w wk)(n:Qk):AN A2 38 #[nodeV n] wk fun e w'=>e= .returned (.bool (QF n))/\AB wk.heap.size wk w':=
 (h.call0 hb [nodeV n] (bNodeOk n) rfl).mono fun _ _ ⟨_,h1,h2,h3⟩=>⟨by rw[h1,rel_v h3],h2⟩
theorem cLeaves(h:AtW B σ S H w s a)(hb:AB w.heap.size w wk)(hg:QU s)(htx:0<=s.2.2.1)(t:Pl.Tree)(hin: ∀p∈(QX s t).1,Pm.PtrIn p):AN A2 39 #[a,.agg (Pm.treeL t).toArray] wk fun e w'=>
 ∃A c,e= .returned (.tuple #[.slice A (QX s t).1.length c,.bool (QX s t).2])/\AB wk.heap.size wk w'/\Pm.At w' w'.heap.size A (QX s t).1:=
 (h.call hb [.agg (Pm.treeL t).toArray] (bLeaves s hg htx t) rfl).mono fun _ _ ⟨_,h1,h2,h3⟩=>by
   obtain⟨x,y,rfl,hx,hy⟩:=Qkl h3;obtain⟨A,c,rfl,hA⟩:=QoW hx (fun _ hb=>hb) hin
   grind [rel_v]
theorem cRead(h:AtW B σ S H w s a)(hb:AB w.heap.size w wk)(hg:QU s)(p:Pl.Ptr)(hp:Pl.ptrHole p=false->Pl.ptrOk p=true):AN A2 40 #[a,.agg (Pm.ptrL p).toArray] wk fun e w'=>
 e= .returned (.tuple #[.string ⟨(Qi s.1 p).1.toArray⟩,.bool (Qi s.1 p).2])/\AB wk.heap.size wk w':=
 (h.call hb [.agg (Pm.ptrL p).toArray] (bRead s hg p hp) rfl).mono fun _ _ ⟨_,h1,h2,h3⟩=>by
   grind [Qkl,rel_v]
def QpA(h:AtW B σ S H w s a)(hb:AB w.heap.size w wk)(size:Int)(k:Nat)(h0:0<=size)(h1:size<=2048)(hk:k<=100):AN A2 42 #[.int .i64 size,.int .i64 k] wk fun e w'=>e= .returned (.int .i64 (QaY size k))/\AB wk.heap.size wk w':=
 (h.call0 hb [.int .i64 size,.int .i64 k] (QpH size k h0 h1 hk) rfl).mono fun _ _ ⟨_,h1,h2,h3⟩=>⟨by rw[h1,rel_v h3],h2⟩
theorem QpB(h:AtW B σ S H w s a)(hb:AB w.heap.size w wk)(x:List UInt8)(n:Int)(hx:x.length<=1000000):AN A2 41 #[.string ⟨x.toArray⟩,.int .i64 n] wk fun e w'=>
 e= .returned (.tuple #[.string ⟨(Qbi x n).1.toArray⟩,.bool (Qbi x n).2])/\AB wk.heap.size wk w':=
 (h.call0 hb [.string ⟨x.toArray⟩,.int .i64 n] (QpI x n hx) rfl).mono fun _ _ ⟨_,h1,h2,h3⟩=>by
   grind [Qkl,rel_v]
def QpC(x p:List UInt8)(hx:x.length<=1000000)(wk:AM):AN A2 43 #[.string ⟨x.toArray⟩,.string ⟨p.toArray⟩] wk fun e w'=>e= .returned (.bool (p.isSuffixOf x))/\AB wk.heap.size wk w':=
 (Tryz.strings_HasSuffix ⟨x.toArray⟩ ⟨p.toArray⟩ wk (by rw[Pm.Qjg];omega)).mono fun e w' h=>⟨h.1,h.2▸Below.refl _ _⟩
