/- Of fuse_card; no condition. -/
import Derived.Test.YtmomkioebognpaaGreatDoorQ27
set_option linter.all false
set_option maxRecDepth 100000
set_option maxHeartbeats 16000000
open Bool renaming and_eq_true->A2,or_eq_true->AC,false_eq_true->Ag
open Go renaming Value->Ae,Calls->Af,World->An
open Go.Proofs.Tryz renaming prog->A0,underlying90->AE,underlying3->AI,underlying114->AT,underlying116->Ah,underlying23->Ai
open Go.RowKit renaming Below->AN,Hid->AY
open Int renaming toNat_natCast->AA,eq_ofNat_of_zero_le->AM,le_refl->Ak
open List renaming getElem?_eq_getElem->A3,length_append->A4,length_map->A5,mem_of_getElem?->A6,mem_append_right->A7,mem_append_left->A8,take_of_length_le->AB,append_nil->AD,range->AF,getD_eq_getElem?_getD->AG,all_eq_true->AH,take_length->AJ,mem_cons->AK,mem_singleton->AL,getElem?_map->AO,not_mem_nil->AP,map_append->AR,exists_cons_of_ne_nil->AS,append_assoc->AU,take_add_one->AW,mem_map->AX,length_singleton->AZ,mem_range->Aa,take_zero->Ab,flatMap_append->Ac,map_cons->Ad,length_cons->Aj,nil_append->Al,length_nil->Am,map_nil->Ao,map_map->Ap
open Nat renaming zero_add->A9,le_refl->AQ
open Option.some renaming inj->A1
namespace Go.Proofs.YtmomkioebognpaaGreatDoor
noncomputable section
section
open Go.RowKit
namespace Aw
attribute [local irreducible] ASeq ADraw AWP Loc mget mset
def Pl.entL(s:Pm.Store)(x:List (List UInt8))(i:Int):List Pl.Ent:=(Pl.ents s ((Pl.Qaj x).getD i.toNat Pl.zn)).1
def Pl.dirM(s:Pm.Store)(x:List (List UInt8)):Nat->List (Int×D)
 |0=>[]
 |k+1=>if Pl.Qak (Pl.Qaj x) k=2 then mset (Pl.dirM s x k) (k:Nat) (tEnts (Pl.entL s x (k:Nat))) else Pl.dirM s x k
theorem QnI(s:Pm.Store)(x:List (List UInt8)): ∀(k j:Nat),mget (Pl.dirM s x k) (j:Int)=if j<k/\Pl.Qak (Pl.Qaj x) j=2 then some (tEnts (Pl.entL s x (j:Nat))) else none
 |0,j=>by rw[if_neg (by omega)];simp[Pl.dirM,mget]
 |k+1,j=>by
  have ih:=QnI s x k j;unfold Pl.dirM
  by_cases hk:Pl.Qak (Pl.Qaj x) k=2
  ·rw[if_pos hk]
   by_cases hj:k=j
   ·subst hj;rw[QcX,if_pos ⟨by omega,hk⟩]
   ·rw[Qec (by omega),ih]
    grind
  grind
def Qrb(s:Pm.Store)(x:List (List UInt8))(i:Int):Pl.Qam (Pl.entL s x i)=true:=by
 unfold Pl.entL;rcases QcE s ((Pl.Qaj x).getD i.toNat Pl.zn) with h|h
 ·exact h.2
 ·rw[h];rfl
theorem Qrp(s:Pm.Store)(x:List (List UInt8)):Pl.QbL (Pl.dirM s x x.length) (Pl.entL s x):=fun n hn=>by
 refine⟨Qrb s x n,?_⟩;obtain⟨j,rfl⟩:=AM hn;rw[QnI]
 by_cases h:Pl.Qak (Pl.Qaj x) j=2
 ·have:=QcA (ns:=Pl.Qaj x) (k:=j) (by omega)
  grind
 ·rw[if_neg (fun g=>h g.2)]
  refine .inr ⟨rfl,?_⟩;unfold Pl.entL;rw[AA];rcases QcE s ((Pl.Qaj x).getD j Pl.zn) with h2|h2
  ·have:=Qgs h2.1
   exfalso;apply h;unfold Pl.Qak;omega
  ·rw[h2]
def Pl.Qa1(s:Pm.Store)(x:List (List UInt8))(k:Nat):Bool:=
 decide (Pl.Qak (Pl.Qaj x) k=0)||(decide (Pl.Qak (Pl.Qaj x) k=1)&&Pl.QaE s ((Pl.Qaj x).getD k Pl.zn))||(decide (Pl.Qak (Pl.Qaj x) k=2)&&(Pl.ents s ((Pl.Qaj x).getD k Pl.zn)).2)
def Pl.Qbm(s:Pm.Store)(t:Pl.Tree):Bool:=Pl.QaI s t&&decide (Pl.Qak (Pl.Qaj (Pl.Qaa s t)) 0=2)&&(AF (Pl.Qaa s t).length).all (Pl.Qa1 s (Pl.Qaa s t))
def Pl.chF(s:Pm.Store)(x:List (List UInt8)):Nat->Option (List Nat):=Gr.chOf (Pl.enF (Pl.Qaj x) (Pl.ents s))
def Pl.Qb8(s:Pm.Store)(x:List (List UInt8)):Bool:=Pl.QbK (Pl.Qak (Pl.Qaj x)) (Pl.chF s x) (Pl.QaG (Pl.Qaj x)) x.length
def Pl.QbH(s:Pm.Store)(t:Pl.Tree):D:=
 if Pl.Qbm s t then .tup [.pd (rFiles s t (Pl.Qaa s t) (Pl.dirM s (Pl.Qaa s t) (Pl.Qaa s t).length)),dB (Pl.Qb8 s (Pl.Qaa s t))] else .tup [.v (.pointer none),dB false]
theorem Qr4(s:Pm.Store)(x:List (List UInt8))(k:Nat):(Pl.chF s x k).getD []=(Pl.entL s x (k:Nat)).map fun e=>e.2.toNat:=by
 unfold Pl.chF Gr.chOf Pl.enF Pl.entL;rw[AA];rcases QcE s ((Pl.Qaj x).getD k Pl.zn) with h|h
 ·simp_all
 grind
theorem Qhs{s:Pm.Store}{t:Pl.Tree}(h:Pl.QaI s t=true):Pl.TxOk (Pl.Qaa s t)/\(Pl.Qaa s t).length<=16/\ ∀k,Pl.Qak (Pl.Qaj (Pl.Qaa s t)) k≠0->Pl.Qar ((Pl.Qaj (Pl.Qaa s t)).getD k Pl.zn)=true:=by
 unfold Pl.QaI at h;rw[A2,AH] at h;have ht:=Qcf h.1
 have hN: ∀y∈Pl.Qaa s t,y=[]∨Pl.Qar (Pl.ng y).1=true:=fun y hy=>by
  have:=h.2 y hy;rw[AC,A2] at this;rcases this with h|h
  ·grind
  ·rcases Qf5 y with g|g
   ·exact .inr g.1.1
   grind
 refine⟨fun y hy=>(hN y hy).imp id fun g=>Qd6 g,?_,fun k hk=>?_⟩
 ·rw[texts_len s ht];have:=ht.manyHi;omega
 ·rw[QdO]
  have hlt:k<(Pl.Qaa s t).length:=by
   have:=QcA hk;grind
  have hm:(Pl.Qaa s t).getD k []∈Pl.Qaa s t:=by
   grind
  rcases hN _ hm with g|g
  ·exfalso;apply hk;unfold Pl.Qak;rw[QdO,g,QhN];rfl
  ·exact g
theorem QqH(s:Pm.Store)(hg:Pl.Good s)(n:Pl.Node):(Pl.Qb0 s n).1.length<=1000000:=by
 unfold Pl.Qb0;split
 ·rename_i h
  rw[A2] at h;unfold Pl.blob;split
  ·have ht:=Qcf h.1
   have:=QqL (m:=128) (l:=Pl.Qaa s n.tree) fun y hy=>by
    unfold Pl.Qaa at hy;obtain⟨p,_,rfl⟩:=AX.1 hy;exact QhI s hg p
   have h2:=texts_len s ht;have h3:=ht.manyHi
   grind
  ·simp
 ·simp
theorem QoX{s:Pm.Store}{n:Pl.Node}(h1:Pl.Qar n=true)(h2:n.kind=2):Pl.ents s n=if(Pl.Qb0 s n).2=true then Pl.eg (Pl.Qb0 s n).1 else([],false):=by
 unfold Pl.ents Pl.Qb0
 grind
theorem Qpg(s:Pm.Store)(hg:Pl.Good s)(htx:0<=s.2.2.1)(t:Pl.Tree)(hT: ∀n,Pl.Qar n=true->n.kind=1->Pure A0 115 [.pd (rSt s),dNode n] (.tup [.any,dB (Pl.QaE s n)])):
 Pure A0 59 [.pd (rSt s),dTree t] (Pl.QbH s t):=by
 have c1:=bNodes s hg htx t;have hd:=Pm.hid (Pl.QbH.eq_def s t);have hr:AY (Pl.Qbm s t=(Pl.QaI s t&&decide (Pl.Qak (Pl.Qaj (Pl.Qaa s t)) 0=2)&&(AF (Pl.Qaa s t).length).all (Pl.Qa1 s (Pl.Qaa s t)))):=Pm.hid rfl;generalize Pl.QbH s t=res at*;cases htab:Pl.QaI s t
 ·rw[htab] at c1 hr
  have hbad:=Pm.hid (hd.out.trans (if_neg (by rw[hr.out];simp)));simp only[Ag,if_false] at c1;refine kE ?_;refine QbP 0 (h:=?_)
  repeat refine kA ?_
  refine QbQ (hx:=?_);rw[hbad.out]
 obtain⟨hx,hx16,hnok⟩:=Qhs htab;rw[htab] at c1 hr;simp only[if_true] at c1;generalize Pl.Qaa s t=x at*;have c0:=bNodeAt x 0 (by omega);rw[show Pl.atN x 0=_ from QtT hx 0] at c0
 by_cases h02:Pl.Qak (Pl.Qaj x) 0=2
 rotate_left
 ·have hbad:=Pm.hid (hd.out.trans (if_neg (by rw[hr.out,decide_eq_false h02];simp)))
  by_cases h00:Pl.Qak (Pl.Qaj x) 0=0
  ·rw[if_pos h00] at c0
   simp only at c0;clear hd hr hT;refine kE ?_;refine QbP 0 (h:=?_)
   repeat' first|refine kS ?_|refine stepS2 (Qd0) (k:=?_)|refine kU ?_|fail
   all_goals first
    |(refine QbQ (hx:=?_)
      rw[hbad.out];done)
  ·rw[if_neg h00] at c0
   have hk1:((Pl.Qaj x).getD 0 Pl.zn).kind≠2:=fun h=>h02 (by unfold Pl.Qak;omega)
   generalize (Pl.Qaj x).getD 0 Pl.zn=N at*;obtain⟨kd,links,size,⟨⟨p1,p2,p3,p4,p5⟩,depth,many⟩⟩:=N;simp only at c0 hk1;have hk2:(kd==2)=false:=by grind
   clear hd hr hT;refine kE ?_;refine QbP 0 (h:=?_)
   repeat' first|refine kS ?_|refine stepS2 (Qd0) (k:=?_)|refine kU ?_|refine kV ?_ ?_<;>intro q|fail
   all_goals first
    |(refine QbQ (hx:=?_)
      rw[hbad.out];done)
    |(exfalso;grind)
 rw[if_neg (by omega)] at c0
 have hk0:((Pl.Qaj x).getD 0 Pl.zn).kind=2:=by
  rcases Qd9 hx 0 with⟨_,h⟩|⟨_,_,h⟩
  ·unfold Pl.Qak at h02;omega
  ·have:=h.kind;unfold Pl.Qak at h02;omega
 have hG:AY ((AF x.length).all (Pl.Qa1 s x)=true->res= .tup [.pd (rFiles s t x (Pl.dirM s x x.length)),dB (Pl.Qb8 s x)]):=Pm.hid fun h=>hd.out.trans (if_pos (by rw[hr.out,decide_eq_true h02,h];rfl))
 have hB:AY ((AF x.length).all (Pl.Qa1 s x)=false->res= .tup [.v (.pointer none),dB false]):=Pm.hid fun h=>hd.out.trans (if_neg (by rw[hr.out,h];simp))
 have c9:=bLinked s t x hx16 hx _ _ (Qrp s x) (Pl.chF s x) (fun k=>Qr4 s x k);rw[show Pl.QbK (Pl.Qak (Pl.Qaj x)) (Pl.chF s x) (Pl.QaG (Pl.Qaj x)) x.length=Pl.Qb8 s x from rfl] at c9;clear hd hr;generalize hN0:(Pl.Qaj x).getD 0 Pl.zn=N at c0 hk0;obtain⟨kd,links,size,⟨⟨p1,p2,p3,p4,p5⟩,depth,many⟩⟩:=N;simp only at c0 hk0;subst hk0;clear hN0;refine kE ?_;refine QbP 0 (h:=?_)
 repeat' first|refine kS ?_|refine stepS2 (Qd0) (k:=?_)|refine kU ?_|fail
 refine QbS (fun mm st=> ∃k:Nat,k<=x.length/\mm=x.length -k/\AY ((AF k).all (Pl.Qa1 s x)=true)/\
  st=⟨98,[(45,.d (tNds x)),(46,.d (dI x.length)),(47,.d (dI k)),(0,.d (.pd (rSt s))),(8,.ptr 2 0 0)],
   [.row 1 [],.mp 0 (imap (Pl.dirM s x k)),.row 0 [.d (.pd (rSt s)),.d (dI t.root.pat),.d (dI t.root.birth),.d (dI t.root.size),.d (dI t.root.sum),.d (dI t.root.level),.d (dI t.depth),.d (dI t.many),.d (tNds x),.mp 1 0]]⟩)
  [45,46,47,0,8] 3 x.length ⟨0,by omega,rfl,Pm.hid rfl,by simp[keepE,go_sem,Pl.dirM,imap]⟩ (round:=?_)
 rintro mm st ⟨k,hk,rfl,hA,rfl⟩
 repeat refine kG ?_
 cases q3:decide ((k:Int)<(x.length:Int))
 ·have hk3:k=x.length:=by grind
  have hyes:=Pm.hid (hG.out (by rw[<-hk3];exact hA.out));clear hG hB hA;rw[<-hk3] at hyes c9;refine QbP 1 (h:=?_);refine QbP 2 (h:=?_)
  repeat refine kA ?_
  refine QbQ (hx:=?_);rw[hyes.out]
 have hk2:k<x.length:=by grind
 obtain⟨y,hy⟩: ∃y,x[k]? =some y:=⟨_,A3 hk2⟩;have hyd:x.getD k []=y:=by grind
 have hr:=QbV (f:=fun x=>[Pl.ndD x]) hy;have T:AY (Pl.Qa1 s x k=true->(AF (k+1)).all (Pl.Qa1 s x)=true):=fun h=>Pl.Qcm (p:=Pl.Qa1 s x) hA.out h
 have F:AY (Pl.Qa1 s x k=false->res= .tup [.v (.pointer none),dB false]):=fun h=>hB.out (Pl.Qcg (p:=Pl.Qa1 s x) hk2 h)
 have hdm:AY (Pl.dirM s x (k+1)=if Pl.Qak (Pl.Qaj x) k=2 then mset (Pl.dirM s x k) (k:Nat) (tEnts (Pl.entL s x (k:Nat))) else Pl.dirM s x k):=Pm.hid (by conv=>lhs;unfold Pl.dirM);have hgd:AY (Pl.Qa1 s x k=(decide (Pl.Qak (Pl.Qaj x) k=0)||(decide (Pl.Qak (Pl.Qaj x) k=1)&&Pl.QaE s ((Pl.Qaj x).getD k Pl.zn))||(decide (Pl.Qak (Pl.Qaj x) k=2)&&(Pl.ents s ((Pl.Qaj x).getD k Pl.zn)).2))):=Pm.hid rfl;have hnx:=QdO (x:=x) k;rw[hyd] at hnx;clear hG hB hA c0 c1 c9;rcases Qd9 hx k with⟨h1,h2⟩|⟨h1,_,hnb⟩
 ·rw[hyd] at h1
  have e:Pl.ndD y= .v (.pointer none):=by unfold Pl.ndD;grind
  rw[e] at hr;have hk0:Pl.Qak (Pl.Qaj x) k=0:=by unfold Pl.Qak;rw[h2];rfl
  have ht:=Pm.hid (T.out (by rw[hgd.out,hk0];rfl));have hdm2:AY (Pl.dirM s x (k+1)=Pl.dirM s x k):=Pm.hid (by rw[hdm.out,if_neg (by omega)]);clear T F hdm hgd hnx hyd hy hx hT hnok
  repeat' first|refine kS ?_|refine qS (iy hr) ?_|refine qS (Qia AE rfl) ?_|refine kU ?_|fail
  all_goals first
   |(exfalso;simp at*;done)
   |(refine QbR (x.length -(k+1)) (by omega) ⟨k+1,by omega,rfl,ht,?_⟩
     rw[hdm2.out]
     simp[keepE,go_sem];done)
 rw[hyd] at h1;have e:Pl.ndD y= .pd (rNode (Pl.ng y).1):=by unfold Pl.ndD;grind
 rw[e] at hr;have hkN:Pl.Qak (Pl.Qaj x) k=(Pl.ng y).1.kind.toNat:=by unfold Pl.Qak;rw[hnx]
 have hne0:Pl.Qak (Pl.Qaj x) k≠0:=by rw[hkN,<-hnx];have:=hnb.kind;omega
 have hno:=hnok k hne0;have hel:AY (Pl.entL s x (k:Nat)=(Pl.ents s (Pl.ng y).1).1):=Pm.hid (by unfold Pl.entL;simp_all);rw[hnx] at hnb hgd hno;have hkd:=hnb.kind;clear hnx hyd hy e hnok hnb;generalize (Pl.ng y).1=N at*;rcases hkd with hkd|hkd
 ·have hk1:Pl.Qak (Pl.Qaj x) k=1:=by omega
  have c2:=hT N hno hkd;have hgf:Pl.Qa1 s x k=Pl.QaE s N:=by rw[hgd.out,hk1];simp
  rw[hgf] at T F;have hdm2:AY (Pl.dirM s x (k+1)=Pl.dirM s x k):=Pm.hid (by rw[hdm.out,if_neg (by omega)]);clear hgf hgd hdm hel hT hx;generalize Pl.QaE s N=fo at*;obtain⟨kd,links,size,⟨⟨p1,p2,p3,p4,p5⟩,depth,many⟩⟩:=N;simp only at hkd;subst hkd
  repeat' first|refine kS ?_|refine qS (iy hr) ?_|refine qS (Qfg AE rfl) ?_|refine qS (Qcv rfl) ?_|refine kU ?_|refine kV ?_ ?_<;>intro q|fail
  all_goals first
   |(exfalso;simp at*;done)
   |(refine QbR (x.length -(k+1)) (by omega) ⟨k+1,by omega,rfl,Pm.hid (T.out (by simp_all)),?_⟩
     rw[hdm2.out]
     simp[keepE,go_sem];done)
   |(refine QbQ (hx:=?_)
     rw[F.out (by simp_all)];done)
 ·have hk2':Pl.Qak (Pl.Qaj x) k=2:=by omega
  have c3:=QmO s hg htx N;have c4:=QmP (Pl.Qb0 s N).1 (QqH s hg N);have hgf:Pl.Qa1 s x k=(Pl.ents s N).2:=by rw[hgd.out,hk2'];simp
  rw[hgf] at T F;have hen:=QoX (s:=s) hno hkd;have hdm2:AY (Pl.dirM s x (k+1)=mset (Pl.dirM s x k) (k:Nat) (tEnts (Pl.ents s N).1)):=Pm.hid (by rw[hdm.out,if_pos hk2',hel.out]);rw[hen] at T F hdm2;clear hgf hgd hdm hel hT hx hen;generalize Pl.Qb0 s N=ft at*;obtain⟨ftext,fine⟩:=ft;simp only at c3 c4 T F hdm2;generalize Pl.eg ftext=eg at*;obtain⟨list,good⟩:=eg;simp only at c4 T F hdm2;obtain⟨kd,links,size,⟨⟨p1,p2,p3,p4,p5⟩,depth,many⟩⟩:=N;simp only at hkd;subst hkd;cases fine
  all_goals simp only[Ag,if_false,if_true] at T F hdm2
  all_goals
   repeat' first|refine kS ?_|refine qS (iy hr) ?_|refine qS (Qfg AE rfl) ?_|refine qS (Qcv rfl) ?_|refine(Qg1 Ah AI (kk:=?_))|refine kU ?_|refine kV ?_ ?_<;>intro q|fail
  all_goals first
   |(exfalso;simp at*;done)
   |(refine QbR (x.length -(k+1)) (by omega) ⟨k+1,by omega,rfl,Pm.hid (T.out (by simp_all)),?_⟩
     rw[hdm2.out]
     simp[keepE,go_sem];done)
   |(refine QbQ (hx:=?_)
     rw[F.out (by simp_all)];done)
end Aw
end
section
open Go.RowKit
namespace Aw
variable{L:List Nat}{k:Nat}{x:D}{f:FuncId}{P:Program}{args:List D}
def Pl.Qbe(out:List Nat)(k:Nat):List Nat:=if k∈out then out else out++[k]
def Pl.Qa0(out L:List Nat):List Nat:=L.foldl Pl.Qbe out
def QeA(out L:List Nat)(k:Nat):Pl.Qa0 out (k::L)=Pl.Qa0 (Pl.Qbe out k) L:=rfl
def Qos(out L M:List Nat):Pl.Qa0 out (L++M)=Pl.Qa0 (Pl.Qa0 out L) M:=List.foldl_append ..
theorem Qh8(out:List Nat)(k:Nat):out.length<=(Pl.Qbe out k).length/\(Pl.Qbe out k).length<=out.length+1/\((Pl.Qbe out k).length=out.length->Pl.Qbe out k=out):=by
 unfold Pl.Qbe
 grind
theorem Qf1: ∀(L out:List Nat),out.length<=(Pl.Qa0 out L).length/\(Pl.Qa0 out L).length<=out.length+L.length/\((Pl.Qa0 out L).length=out.length->Pl.Qa0 out L=out)
 |[],out=>⟨AQ _,AQ _,fun _=>rfl⟩
 |k::L,out=>by
  obtain⟨h1,h2,h3⟩:=Qh8 out k;obtain⟨g1,g2,g3⟩:=Qf1 L (Pl.Qbe out k);rw[QeA]
  grind
theorem Qp6(out:List Nat)(k j:Nat):j∈Pl.Qbe out k↔j∈out∨j=k:=by
 unfold Pl.Qbe
 grind
def Qg5: ∀(L out:List Nat) (j:Nat),j∈Pl.Qa0 out L↔j∈out∨j∈L
 |[],out,j=>by simp[Pl.Qa0]
 |k::L,out,j=>by rw[QeA,Qg5 L,Qp6,AK,or_assoc]
theorem QlR{out:List Nat}(h:out.Nodup)(k:Nat):(Pl.Qbe out k).Nodup:=by
 unfold Pl.Qbe
 grind
def QgV: ∀{L out:List Nat},out.Nodup->(Pl.Qa0 out L).Nodup
 |[],_,h=>h
 |k::L,_,h=>by rw[QeA];exact QgV (QlR h k)
def Pl.QbG(out:List Nat):List (Int×D):=out.foldl (fun m k=>mset m (k:Nat) (dB true)) []
theorem Qoy(out:List Nat)(k:Nat):Pl.QbG (out++[k])=mset (Pl.QbG out) (k:Nat) (dB true):=by
 unfold Pl.QbG;grind
theorem seenG: ∀(out:List Nat) (m:List (Int×D)) (k:Nat),mget (out.foldl (fun m k=>mset m (k:Nat) (dB true)) m) (k:Int)=if k∈out then some (dB true) else mget m (k:Int)
 |[],m,k=>by simp
 |j::out,m,k=>by
  rw[List.foldl_cons,seenG out]
  by_cases hk:k∈out
  ·grind
  ·rw[if_neg hk]
   by_cases hj:j=k
   ·subst hj;rw[QcX,if_pos List.mem_cons_self]
   ·rw[Qec (by omega),if_neg (fun h=>by grind)]
theorem QpM(out:List Nat)(k:Nat):(mget (Pl.QbG out) (k:Int)).getD (.v (.bool false))=dB (decide (k∈out)):=by
 unfold Pl.QbG;rw[seenG]
 by_cases h:k∈out
 ·grind
 ·rw[if_neg h,decide_eq_false h];simp[mget]
theorem QqR{s:Pm.Store}{x:List (List UInt8)}(h:Gr.FD (Pl.Qak (Pl.Qaj x)) (Pl.chF s x) [k] L):
 ∃L1,L=k::L1/\Gr.FD (Pl.Qak (Pl.Qaj x)) (Pl.chF s x) ((Pl.entL s x (k:Nat)).map fun e=>e.2.toNat) L1/\Pl.Qak (Pl.Qaj x) k≠0:=by
 cases h with
 |file hk h=>
  cases h;refine⟨[],rfl,?_,by omega⟩
  have:Pl.entL s x (k:Nat)=[]:=by
   unfold Pl.entL;rw[AA];rcases QcE s ((Pl.Qaj x).getD k Pl.zn) with h2|h2
   ·have:=Qgs h2.1
    exfalso;unfold Pl.Qak at hk;omega
   ·rw[h2]
  rw[this];exact .nil
 |dir hk hc h1 h2=>
  cases h2;refine⟨_,by rw[AD],?_,by omega⟩;have:=Qr4 s x k
  grind
def QqT{kind:Nat->Nat}{ch:Nat->Option (List Nat)}{es:List Nat}(h:Gr.FD kind ch (k::es) L): ∃M R,L=M++R/\Gr.FD kind ch [k] M/\Gr.FD kind ch es R:=by
 cases h with
 |file hk h=>exact⟨[k],_,rfl,.file hk .nil,h⟩
 |dir hk hc h1 h2=>exact⟨_,_,rfl,by have:=Gr.FD.dir hk hc h1 .nil;simpa using this,h2⟩
attribute [local irreducible] ASeq ADraw AWP Loc mget mset AStep Fg.PlanF Fg.Flts
def QrH:Does A0 122 [.d (.v (.slice none 0 0))] [] [] (.osl 0 0 0 0) [.arr 0 1 9 []]:=by
 refine kL ?hpin fun gvs=>?_
 case hpin=>intro i C hC;simp at hC
 simp only[parA,gslot,A9,Nat.reduceAdd]
 repeat' first|refine kS ?_|refine qS (QoF Ai rfl) ?_|refine kU ?_|fail
 refine Qfw 2 1 9 (h:=?_);refine Qd5 [2,1000000] 1 (H':=[.arr 0 1 9 []]) (hH:=fun R hR=>hR) (h:=?_);exact Qdk (hx:=rfl) (hH:=rfl)
def QrG(l:List (List UInt8))(hl:l.length<=1000000)(hn:l≠[]):Does A0 122 [.d (tStrs l)] [] [] (.osl 0 1 0 l.length) [.arr 1 1 9 (l.map fun s=>[dS s])]:=by
 refine kL ?hpin fun gvs=>?_
 case hpin=>intro i C hC;simp at hC
 simp only[parA,gslot,A9,Nat.reduceAdd];obtain⟨a,l,rfl⟩:=AS hn
 repeat' first|refine kS ?_|refine qS (QhX Ai rfl) ?_|refine(QcG Ty.h rfl Ty.h (hcell:=?_) (hb:=?_) (kk:=?_))|refine kU ?_|fail
 ·intro r hr d hd
  obtain⟨y,_,rfl⟩:=AX.1 hr;obtain rfl:=AL.1 hd;rfl
 ·show(0+((a::l).map fun s=>[dS s]).length)*16<=140737488355328
  rw[A5];omega
 ·refine Qd5 [2,1000000] 1 (H':=[.arr 1 1 9 ((a::l).map fun s=>[dS s])]) (hH:=fun R hR=>hR) (h:=?_)
  exact Qdk (hx:=rfl) (hH:=rfl)
def Pl.vb(x:List (List UInt8))(out:List Nat):List Blk:=
 [.row 0 [.mp 2 0],.row 0 [.osl 3 out.length 0 out.length],.mp 0 (imap (Pl.QbG out)),.arr out.length 10 50 (out.map fun k=>rNode ((Pl.Qaj x).getD k Pl.zn))]
def Pl.vg(out:List Nat):List AV:=[.ptr 0 0 0,.ptr 1 0 0,.mp 2 0,.osl 3 out.length 0 out.length]
def QtB(x:List (List UInt8))(out out':List Nat)(h1:out.length<=out'.length)(h2:out'.length=out.length->out'=out): ∀i C,(Pl.vb x out)[i]? =some C-> ∃C',(Pl.vb x out')[i]? =some C'/\pin1 (Pl.vg out) i C C':=by
 intro i C hC
 match i,hC with
 |0,hC=>obtain rfl:=A1 hC;exact⟨_,rfl,.inr ⟨rfl,0,by simp[Pl.vg]⟩⟩
 |1,hC=>obtain rfl:=A1 hC;exact⟨_,rfl,.inr ⟨rfl,0,by simp[Pl.vg]⟩⟩
 |2,hC=>obtain rfl:=A1 hC;exact⟨_,rfl,.inr ⟨rfl,by simp[Pl.vg]⟩⟩
 |3,hC=>
  obtain rfl:=A1 hC;refine⟨_,rfl,rfl,rfl,?_⟩;rcases Nat.eq_or_lt_of_le h1 with e|e
  ·exact .inr ⟨e,by simp[e],0,out.length,by simp[Pl.vg]⟩
  ·exact .inl e
def bVisit(s:Pm.Store)(t:Pl.Tree)(x:List (List UInt8))(hx:Pl.TxOk x)(m:List (Int×D))(p:List UInt8)(out:List Nat)(ho:out.length<=1000000)(k:Nat)(hk:Pl.Qak (Pl.Qaj x) k≠0):
 Does A0 62 [.d (.agg [dS p,dI k]),.ptr 0 0 0,.ptr 1 0 0,.d (.pd [.pd (rFiles s t x m)])] (Pl.vb x out) (Pl.vg out) (.tup []) (Pl.vb x (Pl.Qbe out k)):=by
 have hvl:=Qh8 out k;refine kL ?hpin fun gvs=>?_
 case hpin=>exact QtB x out _ hvl.1 hvl.2.2
 simp only[parA,gslot,A9,Nat.reduceAdd,Pl.vb,Pl.vg];have hlook:=QpM out k;refine QeR ?_;refine kR ?_;refine QbP 4 (h:=?_)
 by_cases hm:k∈out
 ·rw[decide_eq_true hm] at hlook
  have hv:Pl.Qbe out k=out:=by unfold Pl.Qbe;rw[if_pos hm]
  rw[hv]
  repeat' first|refine kS ?_|refine qS (QcM AT AI (z:= .bool false) (by kernel_rfl) rfl rfl rfl hlook) ?_|refine kU ?_|fail
  all_goals first|exfalso;simp at*;done|exact QeS 4 .normal (.inl rfl) rfl rfl rfl rfl rfl rfl rfl
 ·rw[decide_eq_false hm] at hlook
  have hv:Pl.Qbe out k=out++[k]:=by unfold Pl.Qbe;rw[if_neg hm]
  rw[hv,Qoy,A4,AZ]
  obtain⟨hy1,hy2,hnb⟩:x.getD k []≠[]/\k<x.length/\NodeB ((Pl.Qaj x).getD k Pl.zn):=by
   rcases Qd9 hx k with⟨_,h⟩|h
   ·exfalso;apply hk;unfold Pl.Qak;rw[h];rfl
   ·exact h
  obtain⟨y,hy⟩: ∃y,x[k]? =some y:=⟨_,A3 hy2⟩;have hyd:x.getD k []=y:=by rw[AG,hy];rfl
  have hr:=QbV (f:=fun x=>[Pl.ndD x]) hy;have hnx:=QdO (x:=x) k;rw[hyd] at hnx hy1;have e:Pl.ndD y= .pd (rNode (Pl.ng y).1):=by unfold Pl.ndD;rw[if_neg hy1]
  rw[e] at hr;rw[AR,Ad,Ao,hnx];generalize (Pl.ng y).1=N at*;clear hvl hx hk hm hv hnb hyd hy hnx hy1 e
  repeat' first|refine kS ?_|refine qS (QcM AT AI (z:= .bool false) (by kernel_rfl) rfl rfl rfl hlook) ?_|refine(Qg1 AT AI (kk:=?_))|refine qD (Qcv rfl) ?_|refine qD (iy hr) ?_|(show AWP _ (.region 3 _ _) _ _;refine(Fg.awp_drawF (id:=3) [] [12,13] ?_))|refine Qtv Ty.h rfl Ty.h (hb:=?_) (kk:=?_)|refine kU ?_|fail
  all_goals first
   |(exfalso;simp at*;done)
   |(show((out.map fun k=>rNode ((Pl.Qaj x).getD k Pl.zn)).length+1)*80<=140737488355328
     rw[A5];omega)
   |(rw[A5]
     exact QeS 4 .normal (.inl rfl) rfl rfl rfl rfl rfl rfl rfl)
def Pl.nmD(names:List (List UInt8)):D:=if names=[] then .v (.slice none 0 0) else tStrs names
def QpX{c:Bool}{n:Nat}(h:Pure P f [.sl c n []] x):Pure P f [.v (.slice none 0 0)] x:=by
 intro B σ S H w cargs hB hS hl hr;refine h B σ S H w cargs hB hS hl fun i d v hd hv=>?_
 match i,hd with
 |0,hd=>
  obtain rfl:=A1 hd;have:=hr 0 _ v rfl hv;cases this;exact .slnil _ _ _ _
def vg_mem(x:List (List UInt8))(out:List Nat)(N:Nat)(Lx:List AV)(Hr:List Blk)(g:AV)(hg:g∈Pl.vg out)(ha:AV.ptr 0 0 0∈Lx)(hb:AV.ptr 1 0 0∈Lx):g.ren (rho [0,1,2,3] N)∈Lx++(Pl.vb x out++Hr).flatMap Blk.parts:=by
 simp only[Pl.vg,AK,AP,or_false] at hg;rcases hg with rfl|rfl|rfl|rfl
 ·exact A8 _ ha
 ·exact A8 _ hb
 ·exact A7 _ (by simp[Pl.vb,Blk.parts,AV.parts,AV.ren,rho])
 ·exact A7 _ (by simp[Pl.vb,Blk.parts,AV.parts,AV.ren,rho])
theorem bWalk(s:Pm.Store)(t:Pl.Tree)(x:List (List UInt8))(hx:Pl.TxOk x)(m:List (Int×D))(hm:Pl.QbL m (Pl.entL s x)): ∀(n:Nat) (L:List Nat) (k:Nat) (names:List (List UInt8)) (out:List Nat),L.length<=n->Gr.FD (Pl.Qak (Pl.Qaj x)) (Pl.chF s x) [k] L->
 names.length+L.length<=1000->(∀a∈names,a.length<=4)->out.length+L.length<=1000000->
 Does A0 61 [.d (.pd (rFiles s t x m)),.d (dI k),.d (Pl.nmD names),.fn (.func 62) [.ptr 0 0 0,.ptr 1 0 0,.d (.pd [.pd (rFiles s t x m)])]] (Pl.vb x out) (Pl.vg out) (.tup []) (Pl.vb x (Pl.Qa0 out L)):=by
 intro n;induction n with
 |zero=>
  intro L k names out h1 h2;obtain⟨L1,rfl,_⟩:=QqR h2;simp at h1
 |succ n ih=>
  intro L k names out h1 h2 h3 h4 h5;obtain⟨L1,rfl,hfd,hk0⟩:=QqR h2;simp only[Aj] at h1 h3 h5;have hvl:=Qf1 (k::L1) out;have dv:=bVisit s t x hx m (Pl.QbJ names) out (by omega) k hk0
  obtain⟨dn,g0,hdn,cp,hcl⟩: ∃(dn:D) (g0:Nat),Pl.nmD names=dn/\Pure A0 121 [dn] (dS (Pl.QbJ names))/\Does A0 122 [.d dn] [] [] (.osl 0 g0 0 names.length) [.arr g0 1 9 (names.map fun s=>[dS s])]:=by
   have cp:=Ql5 names (by omega) (fun a ha=>by have:=h4 a ha;omega)
   by_cases hn:names=[]
   ·subst hn
    exact⟨_,0,rfl,QpX cp,QrH⟩
   ·exact⟨tStrs names,1,by unfold Pl.nmD;rw[if_neg hn],cp,QrG names (by omega) hn⟩
  rw[hdn];clear hdn;obtain⟨hE,hgt⟩:=hm (k:Nat) (by omega);have hle:=Qh8 out k;refine kL ?hpin fun gvs=>?_
  case hpin=>exact QtB x out _ hvl.1 hvl.2.2
  simp only[parA,gslot,A9,Nat.reduceAdd];rw[QeA];clear hvl h2 hk0;have hvm:=fun(out:List Nat) (N:Nat)=>vg_mem x out N
  generalize Pl.Qbe out k=out1 at*
  have hg:mget m (k:Nat)=some (.sl true 2 ((Pl.entL s x (k:Nat)).map rEnt))∨mget m (k:Nat)=none/\(Pl.entL s x (k:Nat)).map rEnt=[]:=by
   rcases hgt with h|⟨h1,h2⟩
   ·exact .inl h
   ·exact .inr ⟨h1,by rw[h2];rfl⟩
  generalize Pl.entL s x (k:Nat)=es at*;generalize Pl.QbJ names=pt at*;clear hgt;have hes:es.length<=12:=by have:=hE;unfold Pl.Qam at this;rw[A2,decide_eq_true_eq] at this;exact this.2
  refine QeR ?_;simp only[Pl.vb,Pl.vg] at dv⊢
  repeat' first|refine kS ?_|refine(Qfz [0,1,2,3] dv cK (hgl:=fun g hg=>hvm _ _ _ [] g hg (by simp[AV.parts,go_sem]) (by simp[AV.parts,go_sem])) (k:=?_))|refine qS (Qcv rfl) ?_|refine qS (Qhf Ah AI (by kernel_rfl) rfl rfl hg) ?_|refine kU ?_|fail
  refine QbS (fun mm st=> ∃(j:Nat) (Ld Lr:List Nat),j<=es.length/\mm=es.length -j/\AY (L1=Ld++Lr)/\AY (Gr.FD (Pl.Qak (Pl.Qaj x)) (Pl.chF s x) ((es.drop j).map fun e=>e.2.toNat) Lr)/\
   st=⟨39,[(21,.d (tEnts es)),(22,.d (dI es.length)),(23,.d (dI j)),(0,.d (.pd (rFiles s t x m))),(2,.d dn),(3,.fn (.func 62) [.ptr 0 0 0,.ptr 1 0 0,.d (.pd [.pd (rFiles s t x m)])]),(1000000,.gh [.ptr 0 0 0,.ptr 1 0 0,.mp 2 0,.osl 3 out.length 0 out.length] gvs)],
    [.row 0 [.mp 2 0],.row 0 [.osl 3 (Pl.Qa0 out1 Ld).length 0 (Pl.Qa0 out1 Ld).length],.mp 0 (imap (Pl.QbG (Pl.Qa0 out1 Ld))),.arr (Pl.Qa0 out1 Ld).length 10 50 ((Pl.Qa0 out1 Ld).map fun k=>rNode ((Pl.Qaj x).getD k Pl.zn))]⟩)
   [21,22,23,0,2,3,1000000] 4 es.length ⟨0,[],L1,by omega,rfl,Pm.hid rfl,Pm.hid hfd,by simp[keepE,go_sem,Pl.Qa0]⟩ (round:=?_)
  rintro mm st ⟨j,Ld,Lr,hj,rfl,hL,hF,rfl⟩
  repeat refine kG ?_
  cases q3:decide ((j:Int)<(es.length:Int))
  ·have hje:j=es.length:=by simp at q3;omega
   have hLd:L1=Ld:=by
    have h:=hF.out;rw[hje,List.drop_length] at h;cases h;rw[hL.out,AD]
   clear dv hcl cp ih hvm;subst hLd
   repeat refine kA ?_
   exact QeS 4 .normal (.inl rfl) rfl rfl rfl rfl rfl rfl rfl
  have hj2:j<es.length:=by simp at q3;omega
  obtain⟨e,he⟩: ∃e,es[j]? =some e:=⟨_,A3 hj2⟩;have hr:=QbV (f:=rEnt) he;have heb:=ent_b hE e (A6 he);have hdr:es.drop j=e::es.drop (j+1):=by rw[List.drop_eq_getElem_cons hj2,(List.getElem?_eq_some_iff.1 he).2]
  have hF2:=hF.out;rw[hdr,Ad] at hF2;obtain⟨M,R,rfl,hM,hR⟩:=QqT hF2;obtain⟨nmE,id⟩:=e;simp only at heb hM;obtain⟨kid,rfl⟩:=AM (show 0<=id by omega);rw[AA] at hM;have hLl:=congrArg List.length hL.out;simp only[A4] at hLl;have hvl:=Qf1 Ld out1
  have h4': ∀a∈names++[nmE],a.length<=4:=fun a ha=>by
   rcases List.mem_append.1 ha with h|h
   ·exact h4 a h
   ·rw[AL.1 h];exact Qdz heb.1
  have ih2:=ih M kid (names++[nmE]) (Pl.Qa0 out1 Ld) (by omega) hM (by simp;omega) h4' (by omega);have hnm:Pl.nmD (names++[nmE])=tStrs (names++[nmE]):=by unfold Pl.nmD;rw[if_neg (by simp)]
  rw[hnm,<-Qos] at ih2
  replace hR:=Pm.hid hR
  clear he hdr hF2 hF hM ih hnm dv cp hvl h4 h4';have hL2:AY (L1=(Ld++M)++R):=Pm.hid (by rw[AU];exact hL.out);clear hL hLl hfd;generalize ho3:Pl.Qa0 out1 (Ld++M)=o3 at*;generalize Pl.Qa0 out1 Ld=o2 at*;simp only[Pl.vb,Pl.vg] at ih2
  repeat' first|refine kS ?_|refine qS (iy hr) ?_|(show AWP _ (.region 4 _ _) _ _;refine(QbP 4 (h:=Fg.awp_drawF (id:=4) [0,1,2,3,5,6,7,9] [4,8,10] ?_)))|refine(Fg.aw_fltL (hl:=fun H=>Qc9 Ty.h rfl Ty.h) (k:=?_))|refine(Qh3 [] hcl cK (x':= .osl 5 g0 0 names.length) (hX:=fun _ h=>h) (H':=[.row 0 [.mp 2 0],.row 0 [.osl 3 o2.length 0 o2.length],.mp 0 (imap (Pl.QbG o2)),.arr o2.length 10 50 (o2.map fun k=>rNode ((Pl.Qaj x).getD k Pl.zn)),.row 1 [],.arr g0 1 9 (names.map fun s=>[dS s])]) (hH:=fun _ h=>h) (k:=?_))|refine(Qkv Ty.h rfl Ty.h (hcell:=?_) (hb:=?_) (kk:=?_))|refine(QrM 5 [0,1,2,3] ih2 cK (H':=[.row 0 [.mp 2 0],.row 0 [.osl 3 o3.length 0 o3.length],.mp 0 (imap (Pl.QbG o3)),.arr o3.length 10 50 (o3.map fun k=>rNode ((Pl.Qaj x).getD k Pl.zn)),.row 1 [],.arr (g0+1+1) 1 9 []]) (hH:=?_) (hargs:=?_) (hgl:=?_) (k:=?_))|refine kU ?_|fail
  ·intro r hr d hd
   obtain rfl:=AL.1 hr;obtain rfl:=AL.1 hd;rfl
  ·show((names.map fun s=>[dS s]).length+1)*16<=140737488355328
   rw[A5];omega
  ·have htk:((names.map fun s=>[dS s])++[[dS nmE]]).take ((names.map fun s=>[dS s]).length+[[dS nmE]].length)=(names++[nmE]).map fun s=>[dS s]:=by
    rw[AB (by simp),AR];rfl
   exact congrArg (fun r=>[AV.d (.pd (rFiles s t x m)),AV.d (dI (kid:Nat)),AV.d (.sl true 1 r),AV.fn (.func 62) [.ptr 0 0 0,.ptr 1 0 0,.d (.pd [.pd (rFiles s t x m)])]]) htk
  ·exact fun g hg=>hvm _ _ _ [_,_] g hg (by simp[AV.parts,go_sem]) (by simp[AV.parts,go_sem])
  ·intro R hR;exact hR
  skip
  all_goals first
   |(refine QbR (es.length -(j+1)) (by omega) ⟨j+1,Ld++M,R,by omega,rfl,hL2,hR,?_⟩
     rw[ho3]
     simp[keepE,go_sem];done)
def Pl.QaL(s:Pm.Store)(x:List (List UInt8))(p:List UInt8):Int:=match Pl.Qae p with|none=> -1|some q=>(Pl.Qbt (Pl.entL s x) 0 q).getD (-1)
abbrev Pl.rowsOf(x:List (List UInt8))(M:List Nat):List (List D):=M.map fun k=>rNode ((Pl.Qaj x).getD k Pl.zn)
theorem QjK{dst:Option Tmp}{ty:TypeId}{pos:String}{after:Array Edge}{gd:Option (Nat×Bool)}{env:List (Nat×AV)}{H:List Blk}{fn:Fn}{u1 u2 u3:Operand}{a b c:AV}(h1:aval env u1=a)(h2:aval env u2=b)(h3:aval env u3=c):
 Loc P ⟨dst,.makeFunc fn #[] #[u1,u2,u3],ty,pos,after,gd⟩ env H (.fn fn [a,b,c]) none:=by
 subst h1;subst h2;subst h3;exact Qff
def vg_mem0(Lx:List AV)(Hx:List Blk)(g:AV)(hg:g∈Pl.vg [])(ha:AV.ptr 4 0 0∈Lx)(hb:AV.ptr 1 0 0∈Lx)(hc:AV.mp 3 0∈Hx.flatMap Blk.parts)(hd:AV.osl 2 0 0 0∈Hx.flatMap Blk.parts)(N:Nat):g.ren (rho [4,1,3,2] N)∈Lx++Hx.flatMap Blk.parts:=by
 simp only[Pl.vg,AK,AP,or_false] at hg;rcases hg with rfl|rfl|rfl|rfl
 ·exact A8 _ ha
 ·exact A8 _ hb
 ·exact A7 _ hc
 ·exact A7 _ hd
def Qtt(s:Pm.Store)(t:Pl.Tree)(x:List (List UInt8))(m:List (Int×D))(hm:Pl.QbL m (Pl.entL s x))(p:List UInt8)(hp:p.length<=1000000000000)(hat:Pl.QaL s x p<0):
 Pure A0 29 [.pd (rFiles s t x m),dS p] (.tup [.sl true 10 [],dB false]):=by
 have c:Pure A0 60 [.pd (rFiles s t x m),dS p] (dI (Pl.QaL s x p)):=by unfold Pl.QaL;exact bPath s t x m _ hm p hp
 generalize Pl.QaL s x p=at_ at*;refine kE ?_;refine QbP 0 (h:=?_)
 repeat' first|refine kS ?_|refine stepS2 (Qd0) (k:=?_)|refine kU ?_|refine kV ?_ ?_<;>intro q|fail
 all_goals first
  |(exfalso;simp only[decide_eq_false_iff_not] at*;omega)
  |(refine QcP 4 true 10 (h:=?_)
    exact QbQ (hx:=rfl))
def QrI(s:Pm.Store)(t:Pl.Tree)(x:List (List UInt8))(hx:Pl.TxOk x)(m:List (Int×D))(hm:Pl.QbL m (Pl.entL s x))(p:List UInt8)(hp:p.length<=1000000000000)(j:Nat)(hat:Pl.QaL s x p=j)(L:List Nat)(hL:L.length<=1000)(hfd:Gr.FD (Pl.Qak (Pl.Qaj x)) (Pl.chF s x) [j] L):
 Pure A0 29 [.pd (rFiles s t x m),dS p] (.tup [.sl true 10 (Pl.rowsOf x (Pl.Qa0 [] L)),dB true]):=by
 have c:Pure A0 60 [.pd (rFiles s t x m),dS p] (dI (Pl.QaL s x p)):=by unfold Pl.QaL;exact bPath s t x m _ hm p hp
 rw[hat] at c;have dw:=bWalk s t x hx m hm L.length L j [] [] (AQ _) hfd (by simpa using hL) (fun a ha=>by simp at ha) (by simp;omega);have hgl:=vg_mem0;rw[show Pl.nmD []= .v (.slice none 0 0) by unfold Pl.nmD;rw[if_pos rfl]] at dw;generalize Pl.Qa0 [] L=M at*;clear hfd hL;simp only[Pl.vb,Pl.vg] at dw;refine kE ?_;refine QbP 0 (h:=?_)
 repeat' first|refine kS ?_|refine stepS2 (Qd0) (k:=?_)|refine(Qkq 1 0 10 50 (h:=?_))|refine qS (QjK rfl rfl rfl) ?_|refine(Qfy [4,1,3,2] dw cK (hgl:=fun g hg=>hgl _ _ g hg (by simp[AV.parts,go_sem]) (by simp[AV.parts,go_sem]) (by simp[Blk.parts,AV.parts]) (by simp[Blk.parts,AV.parts]) _) (k:=?_))|refine kU ?_|fail
 all_goals first|exfalso;simp only[decide_eq_true_eq] at*;omega|skip
 refine Qd5 [4,5] 3 (h:=?_);refine QbP 2 (h:=?_);refine QbQ (hx:=?_);rw[AB (by simp)]
def Pl.QbO(s:Pm.Store):Prop:= ∀n,Pl.Qar n=true->n.kind=1->Pure A0 115 [.pd (rSt s),dNode n] (.tup [.any,dB (Pl.QaE s n)])
def Pl.inD(s:Pm.Store)(t:Pl.Tree):D:=if Pl.Qan s then Pl.QbH s t else .tup [.v (.pointer none),dB false]
def QnT(s:Pm.Store)(t:Pl.Tree)(cS:Pure A0 58 [dSt s] (dB (Pl.Qan s)))(hg:Pl.Qan s=true->Pl.Good s/\0<=s.2.2.1)(hT:Pl.Qan s=true->Pl.QbO s):
 Pure A0 28 [dSt s,dTree t] (Pl.inD s t):=by
 unfold Pl.inD;cases h:Pl.Qan s
 ·rw[h] at cS
  rw[if_neg (by simp)];refine kE ?_;refine QbP 0 (h:=?_);refine QbP 1 (h:=?_)
  repeat refine kA ?_
  exact QbQ (hx:=rfl)
 ·rw[h] at cS
  rw[if_pos rfl];have c:=Qpg s (hg h).1 (hg h).2 t (hT h);obtain⟨a,b,hab⟩: ∃a b,Pl.QbH s t= .tup [a,b]:=by unfold Pl.QbH;split<;>exact⟨_,_,rfl⟩
  rw[hab] at c⊢;clear hab hg hT;refine kE ?_;refine QbP 0 (h:=?_);refine QbP 1 (h:=?_)
  repeat refine kA ?_
  exact QbQ (hx:=rfl)
def Pl.Qbr(F:Pl.Node->Int)(N:List Pl.Node):Int:=(N.map F).sum
def Pl.sumP(s:Pm.Store)(t:Pl.Tree)(p:List UInt8)(F:Pl.Node->Int)(M:List Nat):Int×Bool:=
 if Pl.Qan s&&Pl.Qbm s t&&Pl.Qb8 s (Pl.Qaa s t) then(if Pl.QaL s (Pl.Qaa s t) p<0 then(0,false) else(Pl.Qbr F (M.map fun k=>(Pl.Qaj (Pl.Qaa s t)).getD k Pl.zn),true)) else(0,false)
theorem Qo1{S:Nat->Prop}{w:An}{b:Bool}{l:List Pl.Ptr}{v:Ae}(h:RelD S w (.sl b 5 (l.map rPtr)) v)(hS: ∀b,S b->b<w.heap.size)(hx: ∀x∈l,Pm.PtrIn x):
 ∃A c,v= .slice A l.length c/\Pm.At w w.heap.size A l:=by
 generalize hr:l.map rPtr=rows at h;cases h with
 |slnil a cap=>
  have:l=[]:=by simp_all
  subst this;exact⟨_,_,rfl,fun h=>absurd h (by simp)⟩
 |sl _ _ _ bb o cap g hb hn hcap hc hrr=>
  subst hr;refine⟨_,_,by rw[A5],fun _=>⟨bb,o,rfl,hS bb hb,fun i x hi=>⟨Pm.ptrL x,⟨rfl,hx x (A6 hi)⟩,fun j v hj=>?_⟩⟩⟩;have h1:(l.map rPtr)[i]? =some (rPtr x):=by grind
  have key: ∀(j:Nat) u,(rPtr x)[j]? =some (.v u)->w.cell? ⟨bb,o+i*5+j,none⟩=some u:=fun j u hu=>by
   have h2:=hc i j _ _ h1 hu;have h3:=hrr i j _ _ h1 hu;generalize g i j=y at*;cases h3;exact h2
  match j,hj with
  |0,hj=>obtain rfl:=A1 hj;exact key 0 _ rfl
  |1,hj=>obtain rfl:=A1 hj;exact key 1 _ rfl
  |2,hj=>obtain rfl:=A1 hj;exact key 2 _ rfl
  |3,hj=>obtain rfl:=A1 hj;exact key 3 _ rfl
  |4,hj=>obtain rfl:=A1 hj;exact key 4 _ rfl
structure AtW(B:Bs)(σ:Sg)(S:Nat->Prop)(H:List Blk)(w:An)(s:Pm.Store)(a:Ae):Prop where
 gd:Gd B
 sm:Sm B σ S H w
 st:RelD S w (.pd (rSt s)) a
theorem AtW.call{B:Bs}{σ:Sg}{S:Nat->Prop}{H:List Blk}{w wk:An}{s:Pm.Store}{a:Ae}(h:AtW B σ S H w s a)(hb:AN w.heap.size w wk)(vs:List Ae)(hp:Pure A0 f (.pd (rSt s)::args) x)(ha:args=vs.map D.ofV):
 Af A0 f (a::vs).toArray wk fun e w'=> ∃v,e= .returned v/\AN wk.heap.size wk w'/\RelD (fun b=>b<w'.heap.size) w' x v:=by
 have hs:=h.sm.below hb;subst ha;refine(hp B σ _ H wk (a::vs) h.gd hs.1 (by simp) fun i d v hd hv=>?_).mono fun e w' ⟨v,h1,h2,h3⟩=>⟨v,h1,h2,h3.mono (fun b hb=>?_) fun _ _=>rfl⟩
 ·match i,hd,hv with
  |0,hd,hv=>
   obtain rfl:=A1 hd;obtain rfl:=A1 hv;exact h.st.mono (fun b hb=> .inl hb) fun b hb'=>hb.block b ((h.sm.sUp b hb').1)
  |i+1,hd,hv=>
   rw[List.getElem?_cons_succ] at hd hv;rw[AO,hv] at hd;obtain rfl:=A1 hd;exact D.ofV_rel _ _ _
 ·have:=h2.size
  rcases hb with hb|hb
  ·have:=(hs.1.sUp b hb).1;omega
  ·exact hb.2
theorem AtW.call0{B:Bs}{σ:Sg}{S:Nat->Prop}{H:List Blk}{w wk:An}{s:Pm.Store}{a:Ae}(h:AtW B σ S H w s a)(hb:AN w.heap.size w wk)(vs:List Ae)(hp:Pure A0 f args x)(ha:args=vs.map D.ofV):
 Af A0 f vs.toArray wk fun e w'=> ∃v,e= .returned v/\AN wk.heap.size wk w'/\RelD (fun b=>b<w'.heap.size) w' x v:=by
 have hs:=h.sm.below hb;subst ha;refine(hp B σ _ H wk vs h.gd hs.1 (by simp) fun i d v hd hv=>?_).mono fun e w' ⟨v,h1,h2,h3⟩=>⟨v,h1,h2,h3.mono (fun b hb=>?_) fun _ _=>rfl⟩
 ·rw[AO,hv] at hd
  obtain rfl:=A1 hd;exact D.ofV_rel _ _ _
 ·have:=h2.size
  rcases hb with hb|hb
  ·have:=(hs.1.sUp b hb).1;omega
  ·exact hb.2
def rel_v{S:Nat->Prop}{w:An}{x v:Ae}(h:RelD S w (.v x) v):v=x:=by cases h;rfl
def QjC{S:Nat->Prop}{w:An}{y:D}{v:Ae}(h:RelD S w (.tup [x,y]) v): ∃a b,v= .tuple #[a,b]/\RelD S w x a/\RelD S w y b:=by
 cases h with
 |tup _ cs hl h=>
  match cs,hl with
  |[a,b],_=>exact⟨a,b,rfl,h 0 _ _ rfl rfl,h 1 _ _ rfl rfl⟩
variable{B:Bs}{σ:Sg}{S:Nat->Prop}{H:List Blk}{w wk:An}{s:Pm.Store}{a:Ae}
def nodeV(n:Pl.Node):Ae:= .agg #[.int .i64 n.kind,.int .i64 n.links,.int .i64 n.size,.int .i64 n.tree.root.pat,.int .i64 n.tree.root.birth,.int .i64 n.tree.root.size,.int .i64 n.tree.root.sum,.int .i64 n.tree.root.level,.int .i64 n.tree.depth,.int .i64 n.tree.many]
def cNodeOk(h:AtW B σ S H w s a)(hb:AN w.heap.size w wk)(n:Pl.Node):Af A0 166 #[nodeV n] wk fun e w'=>e= .returned (.bool (Pl.Qar n))/\AN wk.heap.size wk w':=
 (h.call0 hb [nodeV n] (bNodeOk n) rfl).mono fun _ _ ⟨_,h1,h2,h3⟩=>⟨by rw[h1,rel_v h3],h2⟩
def cLeaves(h:AtW B σ S H w s a)(hb:AN w.heap.size w wk)(hg:Pl.Good s)(htx:0<=s.2.2.1)(t:Pl.Tree)(hin: ∀p∈(Pl.Qao s t).1,Pm.PtrIn p):Af A0 82 #[a,.agg (Pm.treeL t).toArray] wk fun e w'=>
 ∃A c,e= .returned (.tuple #[.slice A (Pl.Qao s t).1.length c,.bool (Pl.Qao s t).2])/\AN wk.heap.size wk w'/\Pm.At w' w'.heap.size A (Pl.Qao s t).1:=
 (h.call hb [.agg (Pm.treeL t).toArray] (bLeaves s hg htx t) rfl).mono fun _ _ ⟨_,h1,h2,h3⟩=>by
   obtain⟨x,y,rfl,hx,hy⟩:=QjC h3;obtain⟨A,c,rfl,hA⟩:=Qo1 hx (fun _ hb=>hb) hin;exact⟨A,c,by rw[h1,rel_v hy],h2,hA⟩
def cRead(h:AtW B σ S H w s a)(hb:AN w.heap.size w wk)(hg:Pl.Good s)(p:Pl.Ptr)(hp:Pl.ptrHole p=false->Pl.ptrOk p=true):Af A0 84 #[a,.agg (Pm.ptrL p).toArray] wk fun e w'=>
 e= .returned (.tuple #[.string ⟨(Pl.rd s.1 p).1.toArray⟩,.bool (Pl.rd s.1 p).2])/\AN wk.heap.size wk w':=
 (h.call hb [.agg (Pm.ptrL p).toArray] (bRead s hg p hp) rfl).mono fun _ _ ⟨_,h1,h2,h3⟩=>by
   obtain⟨x,y,rfl,hx,hy⟩:=QjC h3;exact⟨by rw[h1,rel_v hx,rel_v hy],h2⟩
def Qpa(h:AtW B σ S H w s a)(hb:AN w.heap.size w wk)(size:Int)(k:Nat)(h0:0<=size)(h1:size<=2048)(hk:k<=100):Af A0 168 #[.int .i64 size,.int .i64 k] wk fun e w'=>e= .returned (.int .i64 (Pl.Qb5 size k))/\AN wk.heap.size wk w':=
 (h.call0 hb [.int .i64 size,.int .i64 k] (Qph size k h0 h1 hk) rfl).mono fun _ _ ⟨_,h1,h2,h3⟩=>⟨by rw[h1,rel_v h3],h2⟩
def Qpb(h:AtW B σ S H w s a)(hb:AN w.heap.size w wk)(x:List UInt8)(n:Int)(hx:x.length<=1000000):Af A0 167 #[.string ⟨x.toArray⟩,.int .i64 n] wk fun e w'=>
 e= .returned (.tuple #[.string ⟨(Pl.fill x n).1.toArray⟩,.bool (Pl.fill x n).2])/\AN wk.heap.size wk w':=
 (h.call0 hb [.string ⟨x.toArray⟩,.int .i64 n] (Qpi x n hx) rfl).mono fun _ _ ⟨_,h1,h2,h3⟩=>by
   obtain⟨y,z,rfl,hy,hz⟩:=QjC h3;exact⟨by rw[h1,rel_v hy,rel_v hz],h2⟩
def Qpc(x p:List UInt8)(hx:x.length<=1000000)(wk:An):Af A0 169 #[.string ⟨x.toArray⟩,.string ⟨p.toArray⟩] wk fun e w'=>e= .returned (.bool (p.isSuffixOf x))/\AN wk.heap.size wk w':=
 (Tryz.strings_HasSuffix ⟨x.toArray⟩ ⟨p.toArray⟩ wk (by rw[Pm.Qi4];omega)).mono fun e w' h=>⟨h.1,h.2▸Below.refl _ _⟩
theorem Qhk(s:Pm.Store)(t:Pl.Tree):(Pl.Qbm s t&&Pl.Qb8 s (Pl.Qaa s t))=Pl.Qav s t:=by
 rw[Bool.eq_iff_iff,Qfm];have hnl:(Pl.Qab s t).length=(Pl.Qaa s t).length:=by unfold Pl.Qab;grind
 rw[A2];unfold Pl.Qbm Pl.Qb8 Pl.QbK Pl.chF;rw[A2,A2,decide_eq_true_eq,AH]
 have hk2: ∀k,Pl.Qak (Pl.Qab s t) k=2↔((Pl.Qab s t).getD k Pl.zn).kind=2:=fun k=>by
  have:=Qdj (nsOk s t) k;unfold Pl.Qak;omega
 have hk1: ∀k,Pl.Qak (Pl.Qab s t) k=1↔((Pl.Qab s t).getD k Pl.zn).kind=1:=fun k=>by
  have:=Qdj (nsOk s t) k;unfold Pl.Qak;omega
 show((Pl.QaI s t=true/\Pl.Qak (Pl.Qab s t) 0=2)/\ ∀k∈AF (Pl.Qaa s t).length,Pl.Qa1 s (Pl.Qaa s t) k=true)/\_↔_;rw[<-hnl];constructor
 ·rintro⟨⟨⟨h1,h2⟩,h3⟩,h4⟩
  have hG: ∀k,Pl.Qak (Pl.Qab s t) k≠0->Pl.Qa1 s (Pl.Qaa s t) k=true:=fun k hk=>h3 k (Aa.2 (QcA hk))
  refine⟨h1,(hk2 0).1 h2,fun k hk=>?_,fun k hk=>?_,?_⟩
  ·have h:=hG k (by grind)
   have e:Pl.Qak (Pl.Qaj (Pl.Qaa s t)) k=1:=(hk1 k).2 hk;unfold Pl.Qa1 at h;rw[e] at h;show Pl.QaE s ((Pl.Qaj (Pl.Qaa s t)).getD k Pl.zn)=true
   grind
  ·have h:=hG k (by grind)
   have e:Pl.Qak (Pl.Qaj (Pl.Qaa s t)) k=2:=(hk2 k).2 hk;unfold Pl.Qa1 at h;rw[e] at h;show(Pl.ents s ((Pl.Qaj (Pl.Qaa s t)).getD k Pl.zn)).2=true
   grind
  ·cases hb:Gr.bfs (Pl.Qak (Pl.Qaj (Pl.Qaa s t))) (Gr.chOf (Pl.enF (Pl.Qaj (Pl.Qaa s t)) (Pl.ents s))) (1+Gr.left (Pl.Qak (Pl.Qaj (Pl.Qaa s t))) (Pl.Qab s t).length []) [0] [] with
   |none=>grind
   |some nm=>
    rw[hb] at h4;simp only[AH,Aa] at h4;refine⟨nm,hb,fun k hk0 hk=>?_⟩;have:=h4 k (QcA hk);rw[AC,AC,decide_eq_true_eq,decide_eq_true_eq,decide_eq_true_eq] at this;rcases this with(h|h)|h
    ·omega
    ·exact absurd h hk
    ·exact h
 ·rintro⟨h1,h2,h3,h4,nm,h5,h6⟩
  refine⟨⟨⟨h1,(hk2 0).2 h2⟩,fun k _=>?_⟩,?_⟩
  ·unfold Pl.Qa1
   have hc:=Qdj (nsOk s t) k;rcases hc with hc|hc|hc
   ·have e:Pl.Qak (Pl.Qaj (Pl.Qaa s t)) k=0:=by show((Pl.Qab s t).getD k Pl.zn).kind.toNat=0;omega
    rw[e];rfl
   ·have e:Pl.Qak (Pl.Qaj (Pl.Qaa s t)) k=1:=(hk1 k).2 hc
    have this:Pl.QaE s ((Pl.Qaj (Pl.Qaa s t)).getD k Pl.zn)=true:=h3 k hc
    grind
   ·have e:Pl.Qak (Pl.Qaj (Pl.Qaa s t)) k=2:=(hk2 k).2 hc
    have this:(Pl.ents s ((Pl.Qaj (Pl.Qaa s t)).getD k Pl.zn)).2=true:=h4 k hc
    grind
  ·rw[show Gr.bfs (Pl.Qak (Pl.Qaj (Pl.Qaa s t))) (Gr.chOf (Pl.enF (Pl.Qaj (Pl.Qaa s t)) (Pl.ents s))) (1+Gr.left (Pl.Qak (Pl.Qaj (Pl.Qaa s t))) (Pl.Qab s t).length []) [0] []=some nm from h5]
   simp only[AH,Aa];intro k _;rw[AC,AC,decide_eq_true_eq,decide_eq_true_eq,decide_eq_true_eq]
   by_cases hk0:k=0
   ·omega
   ·by_cases hk:Pl.Qak (Pl.Qaj (Pl.Qaa s t)) k=0
    ·omega
    ·exact .inr (h6 k hk0 hk)
def Qqh(s:Pm.Store)(t:Pl.Tree)(p:List UInt8):Pl.QaL s (Pl.Qaa s t) p=match Pl.Qae p with|none=> -1|some q=>(Pl.QaM s (Pl.Qab s t) 0 q).getD (-1):=by
 unfold Pl.QaL;cases Pl.Qae p with
 |none=>rfl
 |some q=>
  simp only;unfold Pl.QaM;rw[<-Qm8];rfl
theorem QmY(F:Nat->Int)(n:Nat): ∀(m:Nat) (V:List Nat),V.length=m->V.Nodup->(∀k∈V,k<n)->(V.map F).sum=Pl.QaJ (fun k=>if k∈V then F k else 0) n
 |0,V,hm,_,_=>by
  obtain rfl:=List.length_eq_zero_iff.1 hm
  have: ∀n,Pl.QaJ (fun k=>if k∈([]:List Nat) then F k else 0) n=0:=fun n=>by
   induction n with
   |zero=>rfl
   |succ n ih=>unfold Pl.QaJ;grind
  grind
 |m+1,V,hm,hV,hlt=>by
  rcases List.eq_nil_or_concat V with rfl|⟨W,a,rfl⟩
  ·simp at hm
  ·rw[List.concat_eq_append] at*
   rw[List.nodup_append] at hV;have ha:a∉W:=fun h=>hV.2.2 a h a (by simp) rfl
   rw[Qk8 ha,if_pos (hlt a (by simp)),AR,List.sum_append,QmY F n m W (by grind) hV.1 (fun k hk=>hlt k (by simp[hk]))];simp
theorem QtL{kind:Nat->Nat}{ch:Nat->Option (List Nat)}: ∀{es L:List Nat} {e:Nat},Gr.FD kind ch es L->e∈es-> ∃M,Gr.FD kind ch [e] M/\M.length<=L.length
 |[],_,_,_,h=>by cases h
 |k::es,L,e,h,hm=>by
  obtain⟨M,R,rfl,h1,h2⟩:=QqT h;rcases AK.1 hm with rfl|hm
  ·grind
  ·obtain⟨M',g1,g2⟩:=QtL h2 hm
   grind
theorem Qn7{s:Pm.Store}{x:List (List UInt8)}: ∀{q:List (List UInt8)} {i j:Int} {L:List Nat},0<=i->Gr.FD (Pl.Qak (Pl.Qaj x)) (Pl.chF s x) [i.toNat] L->Pl.Qbt (Pl.entL s x) i q=some j-> ∃M,Gr.FD (Pl.Qak (Pl.Qaj x)) (Pl.chF s x) [j.toNat] M/\M.length<=L.length
 |[],i,j,L,_,h,hf=>by rw[QqP] at hf;grind
 |n::q,i,j,L,hi,h,hf=>by
  rw[QgH] at hf;obtain⟨L1,rfl,h1,_⟩:=QqR h;rw[show((i.toNat:Nat):Int)=i by omega] at h1;cases he:(Pl.entL s x i).find? (fun e=>e.1==n) with
  |none=>grind
  |some e=>
   rw[he] at hf;have hm:=List.mem_of_find?_eq_some he;obtain⟨M,g1,g2⟩:=QtL h1 (AX.2 ⟨e,hm,rfl⟩);have hb:=ent_b (Qrb s x i) e hm;obtain⟨M',g3,g4⟩:=Qn7 (by omega) g1 hf
   grind
theorem Qsk(s:Pm.Store)(t:Pl.Tree)(p:List UInt8)(F G:Pl.Node->Int)(hFG: ∀n:Pl.Node,n.kind=1∨n.kind=2->F n=G n): ∃L:List Nat,
 (Pl.Qan s=true->Pl.Qbm s t=true->Pl.Qb8 s (Pl.Qaa s t)=true-> ¬Pl.QaL s (Pl.Qaa s t) p<0->L.length<=1000/\Gr.FD (Pl.Qak (Pl.Qaj (Pl.Qaa s t))) (Pl.chF s (Pl.Qaa s t)) [(Pl.QaL s (Pl.Qaa s t) p).toNat] L)/\
 Pl.sumP s t p F (Pl.Qa0 [] L)=Pl.Qay s t p G:=by
 unfold Pl.sumP Pl.Qay;have hl:=Qhk s t;rw[Bool.and_assoc,hl];have hp:=Qqh s t p;cases hq:Pl.Qae p with
 |none=>
  simp_all
 |some q=>
  rw[hq] at hp;have hp:Pl.QaL s (Pl.Qaa s t) p=(Pl.QaM s (Pl.Qab s t) 0 q).getD (-1):=hp;simp only
  by_cases hF:(Pl.Qan s&&Pl.Qav s t)=true
  rotate_left
  ·refine⟨[],fun h1 h2 h3 _=>absurd (by grind) hF,?_⟩
   grind
  have hF0:=hF;rw[A2] at hF;have hFi:=(Qfm s t).1 hF.2;cases hj:Pl.QaM s (Pl.Qab s t) 0 q with
  |none=>
   simp_all
  |some j=>
   rw[hj] at hp;have hp:Pl.QaL s (Pl.Qaa s t) p=j:=hp;rw[hp];have hj0:=QjW (Ak 0) hj;obtain⟨M,hM,hs⟩:=QpD hFi hj;refine⟨M,fun _ _ _ _=>⟨?_,?_⟩,?_⟩
   ·have hOk:=hF.2
    unfold Pl.Qav at hOk;simp only[A2,beq_iff_eq] at hOk;obtain⟨L,g1,g2,g3⟩:=Qgp s hFi.root hOk.1.2;have hj':=hj;unfold Pl.QaM at hj';rw[<-Qm8] at hj';obtain⟨M',g4,g5⟩:=Qn7 (s:=s) (x:=Pl.Qaa s t) (i:=0) (L:=L.map Prod.snd) (Ak 0) (show Gr.FD (Pl.Qak (Pl.Qab s t)) (Gr.chOf (Pl.enF (Pl.Qab s t) (Pl.ents s))) [0] _ from g1.fd) hj';rw[<-g4.unique hM] at g5
    grind
   ·exact hM
   ·rw[if_pos hF0,if_pos hF0,if_neg (by omega),hs]
    congr 1
    have hV:(Pl.Qa0 [] M).Nodup:=QgV List.nodup_nil;have hmem: ∀k,k∈Pl.Qa0 [] M↔k∈M:=fun k=>by rw[Qg5];simp
    have hlt: ∀k∈Pl.Qa0 [] M,k<(Pl.Qab s t).length:=fun k hk=>by
     rcases hM.kinds k ((hmem k).1 hk) with h|h
     ·exact QcA (by omega)
     ·exact QcA (by omega)
    unfold Pl.Qbr;rw[Ap,QmY _ (Pl.Qab s t).length _ _ rfl hV hlt];refine QeC fun k _=>?_
    simp only[hmem,Function.comp]
    by_cases hk:k∈M
    ·rw[if_pos hk,if_pos hk]
     have hkd:=hM.kinds k hk;show F ((Pl.Qab s t).getD k Pl.zn)=G ((Pl.Qab s t).getD k Pl.zn);have hc:=Qdj (nsOk s t) k;unfold Pl.Qak at hkd
     grind
    grind
end Aw
end
section
open Go.RowKit
namespace Aw
open Pm
theorem bText(s:Pm.Store)(hg:Pl.Good s)(htx:0<=s.2.2.1)(hin: ∀t,∀p∈(Pl.Qao s t).1,Pm.PtrIn p):Pl.QbO s:=by
 intro n hno hk B σ S H w cargs hB hS hl hr
 match cargs,hl with
 |[a,b],_=>
 have h0:=hr 0 _ a rfl rfl;have h1:=hr 1 _ b rfl rfl
 obtain rfl:b=nodeV n:=by
  have:=Qfs (l:=[dNode n]) (vs:=[nodeV n]) (cs:=[b]) rfl rfl (fun i d v hd hv=>hr (i+1) d v hd hv);simpa using this
 have HW:=hid (AtW.mk hB hS h0);have HL:=hid (hB.ltOf hS);clear hr h1 hB hS
 suffices h:Af A0 115 #[a,nodeV n] w fun e w'=>(∃txt,e= .returned (.tuple #[.string txt,.bool (Pl.QaE s n)]))/\AN w.heap.size w w' by
  refine h.mono ?_;rintro e w' ⟨⟨txt,rfl⟩,hb⟩;refine⟨_,rfl,hb,.tup _ _ rfl fun i d v hd hv=>?_⟩
  match i,hd,hv with
  |0,hd,hv=>obtain rfl:=A1 hd;exact .any _
  |1,hd,hv=>obtain rfl:=A1 hd;obtain rfl:=A1 hv;exact .v _
 obtain⟨ad,rfl⟩: ∃ad,a= .pointer ad:=by cases h0;exact⟨_,rfl⟩
 clear h0;have Hnn:=hid hno;have Hf:=hid (QjX (s:=s) hno hk);obtain⟨kd,links,size,⟨⟨p1,p2,p3,p4,p5⟩,depth,many⟩⟩:=n;simp only at hk;subst hk
 have Hok1:AY (∀wk,AN w.heap.size w wk->Af A0 166 #[.agg #[.int .i64 1,.int .i64 links,.int .i64 size,.int .i64 p1,.int .i64 p2,.int .i64 p3,.int .i64 p4,.int .i64 p5,.int .i64 depth,.int .i64 many]] wk fun e w'=>e= .returned (.bool true)/\AN wk.heap.size wk w'):=
  hid fun wk hb=>(cNodeOk HW.out hb ⟨1,links,size,⟨⟨p1,p2,p3,p4,p5⟩,depth,many⟩⟩).mono fun e w' h=>⟨by rw[h.1,Hnn.out],h.2⟩
 have Hlv:AY (∀wk,AN w.heap.size w wk->Af A0 82 #[.pointer ad,.agg #[.int .i64 p1,.int .i64 p2,.int .i64 p3,.int .i64 p4,.int .i64 p5,.int .i64 depth,.int .i64 many]] wk fun e w'=>
  ∃A c,e= .returned (.tuple #[.slice A (Pl.Qao s ⟨⟨p1,p2,p3,p4,p5⟩,depth,many⟩).1.length c,.bool (Pl.Qao s ⟨⟨p1,p2,p3,p4,p5⟩,depth,many⟩).2])/\AN wk.heap.size wk w'/\Pm.At w' w'.heap.size A (Pl.Qao s ⟨⟨p1,p2,p3,p4,p5⟩,depth,many⟩).1):=
  hid fun wk hb=>cLeaves HW.out hb hg htx ⟨⟨p1,p2,p3,p4,p5⟩,depth,many⟩ (hin _)
 clear Hnn;unfold nodeV
 go_enter Tryz.func115,Tryz.ntmps115
 go_wp2_with fail
 refine(Hok1.out _ (bnew _ _)).mono ?_;rintro e w1 ⟨rfl,hb1⟩
 have Hbx:AY (∀(j:Nat) v,([.int .i64 1,.int .i64 links,.int .i64 size,.int .i64 p1,.int .i64 p2,.int .i64 p3,.int .i64 p4,.int .i64 p5,.int .i64 depth,.int .i64 many]:List Ae)[j]? =some v->w1.cell? ⟨w.heap.size,j,none⟩=some v):=hid fun j v hv=>by
  rw[hb1.cell (by simp)];rw[cell_of_row _ _ j _ _ _ (Qdp _ _)];exact(List.getElem?_toArray ..).trans hv
 have Hb1:=hid (btr (bnew w _) hb1);have Hsz:AY (w.heap.size<w1.heap.size):=hid (by have:=hb1.size;simp at this;omega);clear hb1;have x0:=Hbx.out 0 _ rfl;have x3:=Hbx.out 3 _ rfl;have x4:=Hbx.out 4 _ rfl;have x5:=Hbx.out 5 _ rfl;have x6:=Hbx.out 6 _ rfl;have x7:=Hbx.out 7 _ rfl;have x8:=Hbx.out 8 _ rfl;have x9:=Hbx.out 9 _ rfl
 go_wp2_with fail
 refine(Hlv.out _ Hb1.out).mono ?_;rintro e w2 ⟨A,c,rfl,hb2,hA⟩;have Hb2:=hid (btr Hb1.out hb2);have HA2:=hid hA;have y2:=(hb2.cell (p:=⟨w.heap.size,2,none⟩) Hsz.out).trans (Hbx.out 2 _ rfl);have Hsz2:AY (w.heap.size<w2.heap.size):=hid (by have:=hb2.size;have:=Hsz.out;omega);clear x0 x3 x4 x5 x6 x7 x8 x9 Hbx Hsz Hb1 hA hb2 Hlv Hok1;cases ht:(Pl.Qai s ⟨⟨p1,p2,p3,p4,p5⟩,depth,many⟩)
 ·have hlv:Pl.Qao s ⟨⟨p1,p2,p3,p4,p5⟩,depth,many⟩=([],false):=by unfold Pl.Qao;rw[ht];rfl
  have hfl:AY (Pl.QaE s ⟨1,links,size,⟨⟨p1,p2,p3,p4,p5⟩,depth,many⟩⟩=false):=hid (by rw[Hf.out,ht];rfl);clear Hf;rw[hlv]
  go_wp2
  go_ret2
  exact⟨⟨⟨#[]⟩,by rw[hfl.out];rfl⟩,Hb2.out⟩
 have hl2:(Pl.Qao s ⟨⟨p1,p2,p3,p4,p5⟩,depth,many⟩).2=true:=by unfold Pl.Qao;rw[if_pos ht]
 rw[ht] at Hf;have Hho:=hid (Qee ht);have Hll:=hid (QdU ht);rw[hl2];clear hl2 ht;simp only at Hf Hll;generalize (Pl.Qao s ⟨⟨p1,p2,p3,p4,p5⟩,depth,many⟩).1=ps at HA2 Hho Hll Hf⊢;obtain⟨fo,hfo⟩: ∃fo,AY (Pl.QaE s ⟨1,links,size,⟨⟨p1,p2,p3,p4,p5⟩,depth,many⟩⟩=fo):=⟨_,hid rfl⟩;rw[hfo.out] at Hf
 go_wp2_with fail
 go_loopw [34] (fun iv wr=> ∃(k:Nat) (txt:List UInt8),k<=ps.length/\iv= .int .i64 k/\AY (Bld w2.heap.size txt wr)/\txt.length<=12*k/\AY ((AF k).all (fun k=>Pl.Qbn size k ((ps.map fun p=>(Pl.rd s.1 p).1).getD k []))=true)/\AY (AN w2.heap.size w2 wr)) (fun iv _=>ps.length -(intOf iv).toNat)
 case atStart=>exact⟨0,[],by omega,rfl,hid (bldNew w2),by simp,hid rfl,hid (bnew _ _)⟩
 case round=>
  obtain⟨k,txt,hkl,rfl,HB,htl,HP,Hbel⟩:=hrel
  by_cases hlt:k<ps.length
  ·have hltI:(k:Int)<ps.length:=by omega
   obtain⟨bb,off,cs,rfl,hbb,hc,hv⟩:=(HA2.out.up Hbel.out).elem hlt;obtain⟨p,He⟩: ∃p,AY (p=ps[k]):=⟨ps[k],hid rfl⟩;rw[<-He.out] at hc;obtain⟨rfl,hpin⟩:=hc;have Hpk:=hid ((Hho.out p (by rw[He.out];exact List.getElem_mem hlt)).1)
   have Hx:AY ((ps.map fun p=>(Pl.rd s.1 p).1).getD k []=(Pl.rd s.1 p).1):=hid (by
    rw[AG,AO,A3 hlt,<-He.out];rfl)
   have Hrl:=hid (QhI s hg p);obtain⟨q1,q2,q3,q4,q5⟩:=p;have e0:=hv 0 _ rfl;have e1:=hv 1 _ rfl;have e2:=hv 2 _ rfl;have e3:=hv 3 _ rfl;have e4:=hv 4 _ rfl;simp only[Rep.size,Nat.add_zero] at e0 e1 e2 e3 e4;clear hv hbb hpin He
   go_wp2_with fail
   refine(cRead HW.out (btr (btr Hb2.out Hbel.out) (bnew _ _)) hg ⟨q1,q2,q3,q4,q5⟩ (fun _=>Hpk.out)).mono ?_;rintro e w3 ⟨rfl,hb3⟩;have Hb3:=hid (btr Hbel.out (btr (bnew _ _) hb3));have HB3:=hid (HB.out.below (btr (bnew _ _) hb3));have z2:=(Hb3.out.cell (p:=⟨w.heap.size,2,none⟩) Hsz2.out).trans y2;have Hfp:=Qio hno rfl (k:=k) (by have:=Hll.out.1;simp only;omega);simp only at Hfp;have hT:AY (Pl.Qbn size k (Pl.rd s.1 ⟨q1,q2,q3,q4,q5⟩).1=true->(AF (k+1)).all (fun k=>Pl.Qbn size k ((ps.map fun p=>(Pl.rd s.1 p).1).getD k []))=true):=hid fun h=>Pl.Qcm (p:=fun k=>Pl.Qbn size k ((ps.map fun p=>(Pl.rd s.1 p).1).getD k [])) HP.out (by rw[Hx.out];exact h)
   have hF:AY (Pl.Qbn size k (Pl.rd s.1 ⟨q1,q2,q3,q4,q5⟩).1=false->fo=false):=hid fun h=>by
    rw[Hf.out,Bool.true_and];exact Pl.Qcg (p:=fun k=>Pl.Qbn size k ((ps.map fun p=>(Pl.rd s.1 p).1).getD k [])) hlt (by rw[Hx.out];exact h)
   clear hb3 e0 e1 e2 e3 e4 Hx HB y2;generalize (Pl.rd s.1 ⟨q1,q2,q3,q4,q5⟩).2=rok at*;generalize (Pl.rd s.1 ⟨q1,q2,q3,q4,q5⟩).1=x at*
   go_wp2_with fail
   refine(Qpa HW.out (btr Hb2.out Hb3.out) size k (by omega) (by omega) (by have:=Hll.out;omega)).mono ?_;rintro e w4 ⟨rfl,hb4⟩;have Hb4:=hid (btr Hb3.out hb4);have HB4:=hid (HB3.out.below hb4);clear hb4 HB3 z2
   go_wp2_with fail
   refine(Qpb HW.out (btr Hb2.out Hb4.out) x (Pl.Qb5 size k) (by have:=Hrl.out;omega)).mono ?_;rintro e w5 ⟨rfl,hb5⟩;have Hb5:=hid (btr Hb4.out hb5);have HB5:=hid (HB4.out.below hb5);clear hb5 HB4;have hpd:Pl.Qbn size k x=((Pl.fill x (Pl.Qb5 size k)).2&& !(([0]:List UInt8).isSuffixOf x)):=rfl;rw[hpd] at hT hF
   have hfl:(Pl.fill x (Pl.Qb5 size k)).2=true->(Pl.fill x (Pl.Qb5 size k)).1.length<=12:=fun h=>by
    unfold Pl.fill at h⊢;split at h
    ·rename_i hc
     rw[if_pos hc];simp only[A2,decide_eq_true_eq,Pl.inR] at hc;simp only[A4,List.length_replicate];omega
    ·cases h
   clear hpd;generalize Pl.fill x (Pl.Qb5 size k)=fl at*;obtain⟨full,fine⟩:=fl;simp only at hT hF hfl;cases fine
   ·have hff:=hid (hF.out rfl)
    clear hT hF hfl
    go_wp2
    go_ret2
    exact⟨⟨⟨#[]⟩,by rw[hfo.out,hff.out];rfl⟩,btr Hb2.out Hb5.out⟩
   ·have hfl:=hfl rfl
    go_wp2_with fail
    refine(Qpc x [0] (by have:=Hrl.out;omega) _).mono ?_;rintro e w6 ⟨rfl,hb6⟩;have Hb6:=hid (btr Hb5.out hb6);have HB6:=hid (HB5.out.below hb6);clear hb6 HB5;cases hsx:(([0]:List UInt8).isSuffixOf x)
    ·have hall:=hid (hT.out (by rw[hsx];rfl))
     clear hT hF
     go_wp2_with fail
     refine(bldStr HB6.out full (by have:=Hll.out;omega)).mono ?_;rintro e w7 ⟨rfl,hB7,hb7⟩;have HB7:=hid hB7;have Hb7:=hid (Hb6.out.trans hb7);clear hB7 hb7
     go_wp2_with fail
     go_roundw
     case rel=>exact⟨k+1,txt++full,by omega,by go_num,HB7,by simp only[A4];omega,hall,Hb7⟩
     case measure=>simp only[intOf];omega
    ·have hff:=hid (hF.out (by rw[hsx];rfl))
     clear hT hF
     go_wp2
     go_ret2
     exact⟨⟨⟨#[]⟩,by rw[hfo.out,hff.out];rfl⟩,btr Hb2.out Hb6.out⟩
  ·have hk':k=ps.length:=by omega
   have hff:AY (fo=true):=hid (by rw[Hf.out,<-hk',HP.out];rfl);have hltI: ¬(k:Int)<ps.length:=by omega
   go_wp2_with fail
   refine(bldText HB.out).mono ?_;rintro e w5 ⟨rfl,hb5⟩
   go_wp2
   go_ret2
   exact⟨⟨_,by rw[hfo.out,hff.out];rfl⟩,btr Hb2.out (Hbel.out.trans hb5)⟩
def Qjc(s:Pm.Store)(t:Pl.Tree): ∀p∈(Pl.Qao s t).1,Pm.PtrIn p:=fun p hp=>by
 cases ht:Pl.Qai s t
 ·unfold Pl.Qao at hp
  rw[ht] at hp;simp at hp
 ·have h:=Pl.Qc6 ((Qee ht p hp).1)
  unfold Pm.PtrIn Pm.InI;omega
end Aw
end
section
open Go.RowKit
namespace Aw
attribute [local irreducible] ASeq ADraw AWP Loc mget mset AStep Fg.PlanF Fg.Flts
def Pl.ab(l:List Pl.Ptr):List Blk:=[.row 0 [.osl 1 l.length 0 l.length],.arr l.length 5 31 (l.map rPtr)]
def Pl.ag(l:List Pl.Ptr):List AV:=[.ptr 0 0 0,.osl 1 l.length 0 l.length]
theorem QrU(l m:List Pl.Ptr): ∀i C,(Pl.ab l)[i]? =some C-> ∃C',(Pl.ab (l++m))[i]? =some C'/\pin1 (Pl.ag l) i C C':=by
 intro i C hC
 match i,hC with
 |0,hC=>obtain rfl:=A1 hC;exact⟨_,rfl,.inr ⟨rfl,0,by simp[Pl.ag]⟩⟩
 |1,hC=>
  obtain rfl:=A1 hC;refine⟨_,rfl,rfl,rfl,?_⟩;rcases m with _|⟨x,m⟩
  ·exact .inr ⟨by simp,by simp,0,l.length,by simp[Pl.ag]⟩
  grind
def Qoj(l:List Pl.Ptr)(N:Nat)(Lx:List AV)(Hr:List Blk)(g:AV)(hg:g∈Pl.ag l)(ha:AV.ptr 0 0 0∈Lx):g.ren (rho [0,1] N)∈Lx++(Pl.ab l++Hr).flatMap Blk.parts:=by
 simp only[Pl.ag,AK,AP,or_false] at hg;rcases hg with rfl|rfl
 ·exact A8 _ ha
 ·exact A7 _ (by simp[Pl.ab,Blk.parts,AV.parts,AV.ren,rho])
def Ql9(l:List Pl.Ptr)(hl:l.length<=1000)(p:Pl.Ptr):Does A0 31 [.d (dPtr p),.ptr 0 0 0] (Pl.ab l) (Pl.ag l) (.tup []) (Pl.ab (l++[p])):=by
 refine kL ?hpin fun gvs=>?_
 case hpin=>exact QrU l [p]
 simp only[parA,gslot,A9,Pl.ab,Pl.ag];rw[A4,AZ,AR,Ad,Ao];refine QeR ?_;refine kR ?_;refine QbP 2 (h:=?_)
 repeat' first|refine kS ?_|refine Qci Ty.h rfl Ty.h (hb:=?_) (kk:=?_)|refine kU ?_|fail
 all_goals first
  |(show((l.map rPtr).length+1)*40<=140737488355328
    rw[A5];omega)
  |exact QeS 2 .normal (.inl rfl) rfl rfl rfl rfl rfl rfl rfl
  |(rw[A5]
    exact QeS 2 .normal (.inl rfl) rfl rfl rfl rfl rfl rfl rfl)
theorem bWalkP(s:Pm.Store)(hg:Pl.Good s): ∀(n:Nat) (p:Pl.Ptr) (l:List Pl.Ptr),Pl.Sub s n p->l.length+(Pl.allP s n p).length<=1000->n<=10->
 Does A0 30 [.d (.pd (rSt s)),.d (dPtr p),.d (dI n),.fn (.func 31) [.ptr 0 0 0]] (Pl.ab l) (Pl.ag l) (.tup []) (Pl.ab (l++Pl.allP s n p)):=by
 intro n;induction n with
 |zero=>
  intro p l hs hlen _;have ch:=Qde p;have hmem:=fun(l:List Pl.Ptr) (N:Nat)=>Qoj l N
  have hpin:=QrU l (Pl.allP s 0 p);cases hh:Pl.ptrHole p;rotate_left
  ·rw[Qda s _ hh] at hpin⊢
   rw[hh] at ch;rw[AD] at hpin⊢;refine kL ?hpin fun gvs=>?_
   case hpin=>exact hpin
   simp only[parA,gslot,A9,Nat.reduceAdd,Pl.ab,Pl.ag];refine QeR ?_;refine kR ?_;refine QbP 2 (h:=?_)
   repeat refine kA ?_
   all_goals first
    |(refine QeQ ?_
      exact QeS 2 .ret (.inr rfl) rfl rfl rfl rfl rfl rfl rfl)
  ·have e:Pl.allP s 0 p=[p]:=by unfold Pl.allP;grind
   rw[e] at hpin hlen⊢;rw[hh] at ch;have dv:=Ql9 l (by omega) p;refine kL ?hpin fun gvs=>?_
   case hpin=>exact hpin
   simp only[parA,gslot,A9,Nat.reduceAdd];generalize l++[p]=l1 at*;clear hpin hlen e hh hs;refine QeR ?_;simp only[Pl.ab,Pl.ag] at dv⊢;refine kR ?_;refine QbP 2 (h:=?_)
   repeat' first|refine kS ?_|refine(Qfz [0,1] dv cK (hgl:=fun g hg=>hmem _ _ _ [_] g hg (by simp[AV.parts,go_sem])) (k:=?_))|refine kU ?_|fail
   all_goals first|exact QeS 2 .normal (.inl rfl) rfl rfl rfl rfl rfl rfl rfl
 |succ n ih=>
  intro p l hs hlen hn;have ch:=Qde p;have hmem:=fun(l:List Pl.Ptr) (N:Nat)=>Qoj l N
  have hpin:=QrU l (Pl.allP s (n+1) p);cases hh:Pl.ptrHole p;rotate_left
  ·rw[Qda s _ hh] at hpin⊢
   rw[hh] at ch;rw[AD] at hpin⊢;refine kL ?hpin fun gvs=>?_
   case hpin=>exact hpin
   simp only[parA,gslot,A9,Nat.reduceAdd,Pl.ab,Pl.ag];refine QeR ?_;refine kR ?_;refine QbP 2 (h:=?_)
   repeat refine kA ?_
   all_goals first
    |(refine QeQ ?_
      exact QeS 2 .ret (.inr rfl) rfl rfl rfl rfl rfl rfl rfl)
  ·rcases hs with hs|⟨hok,_,hbi,hbo,hsub⟩
   ·grind
   have e:Pl.allP s (n+1) p=p::(Pl.Qad s p (n+1:Nat)).1.flatMap (Pl.allP s n):=by
    show(if Pl.ptrHole p then [] else p::(Pl.Qad s p (n+1:Nat)).1.flatMap (Pl.allP s n))=_
    grind
   have cf:=bFanOf s hg p (fun _=>hok) (n+1:Nat);rw[(Qiq hok hbi).2 hbo,hbo] at cf;have hfl:=Qdu s p (n+1:Nat);generalize (Pl.Qad s p (n+1:Nat)).1=fan at*;rw[e] at hpin hlen⊢;rw[hh] at ch;simp only[Aj] at hlen;have dv:=Ql9 l (by omega) p;have hsub:=Pm.hid hsub
   have hb: ∀j,((fan.take j).flatMap (Pl.allP s n)).length<=(fan.flatMap (Pl.allP s n)).length:=fun j=>by
    conv=>rhs;rw[<-List.take_append_drop j fan,Ac,A4]
    omega
   replace hb:=Pm.hid hb
   refine kL ?hpin fun gvs=>?_
   case hpin=>exact hpin
   simp only[parA,gslot,A9,Nat.reduceAdd];have hl1:(l++[p]).length=l.length+1:=by simp
   have hres:AY (l++p::fan.flatMap (Pl.allP s n)=(l++[p])++fan.flatMap (Pl.allP s n)):=Pm.hid (by simp);rw[hres.out];generalize l++[p]=l1 at*;clear hpin e hh hres hok hbi hbo;refine QeR ?_;simp only[Pl.ab,Pl.ag] at dv⊢;refine kR ?_;refine QbP 2 (h:=?_);have hpos:decide (((n+1:Nat):Int)>0)=true:=by simp
   repeat' first|refine kS ?_|refine(Qfz [0,1] dv cK (hgl:=fun g hg=>hmem _ _ _ [_] g hg (by simp[AV.parts,go_sem])) (k:=?_))|refine kU ?_|refine kV ?_ ?_<;>intro q|fail
   rotate_left
   ·grind
   clear hpos dv cf ch;have hlv:((n+1:Nat):Int) -1=(n:Nat):=by omega
   refine QbS (fun mm st=> ∃j:Nat,j<=fan.length/\mm=fan.length -j/\
    st=⟨39,[(26,.d (tPtrs fan)),(27,.d (dI fan.length)),(28,.d (dI j)),(0,.d (.pd (rSt s))),(2,.d (dI (n+1:Nat))),(3,.fn (.func 31) [.ptr 0 0 0]),(1000000,.gh [.ptr 0 0 0,.osl 1 l.length 0 l.length] gvs)],
     [.row 0 [.osl 1 (l1++(fan.take j).flatMap (Pl.allP s n)).length 0 (l1++(fan.take j).flatMap (Pl.allP s n)).length],.arr (l1++(fan.take j).flatMap (Pl.allP s n)).length 5 31 ((l1++(fan.take j).flatMap (Pl.allP s n)).map rPtr)]⟩)
    [26,27,28,0,2,3,1000000] 2 fan.length ⟨0,by omega,rfl,by simp[keepE,go_sem]⟩ (round:=?_)
   rintro mm st ⟨j,hj,rfl,rfl⟩
   repeat refine kG ?_
   cases q3:decide ((j:Int)<(fan.length:Int))
   ·have hjf:j=fan.length:=by grind
    rw[hjf,AJ]
    repeat refine kA ?_
    exact QeS 2 .normal (.inl rfl) rfl rfl rfl rfl rfl rfl rfl
   have hj2:j<fan.length:=by grind
   obtain⟨x,hx⟩: ∃x,fan[j]? =some x:=⟨_,A3 hj2⟩;have hr:=QbV (f:=rPtr) hx;have htk:AY ((fan.take (j+1)).flatMap (Pl.allP s n)=(fan.take j).flatMap (Pl.allP s n)++Pl.allP s n x):=Pm.hid (by rw[AW,hx];simp);have hbj:=hb.out (j+1);rw[htk.out,A4] at hbj;have ih2:=ih x (l1++(fan.take j).flatMap (Pl.allP s n)) (hsub.out x (A6 hx)) (by grind) (by omega);rw[<-hlv,AU,<-htk.out] at ih2;generalize ho3:l1++(fan.take (j+1)).flatMap (Pl.allP s n)=o3 at*;generalize l1++(fan.take j).flatMap (Pl.allP s n)=o2 at*;simp only[Pl.ab,Pl.ag] at ih2;clear hx hb hsub ih hbj htk
   repeat' first|refine kS ?_|refine qS (iy hr) ?_|refine(Qfy [0,1] ih2 cK (hgl:=fun g hg=>hmem _ _ _ [_] g hg (by simp[AV.parts,go_sem])) (k:=?_))|refine kU ?_|fail
   refine QbR (fan.length -(j+1)) (by omega) ⟨j+1,by omega,rfl,?_⟩;rw[ho3];simp[keepE,go_sem]
def QrT(Lx:List AV)(Hx:List Blk)(g:AV)(hg:g∈Pl.ag [])(ha:AV.ptr 1 0 0∈Lx)(hd:AV.osl 2 0 0 0∈Hx.flatMap Blk.parts)(N:Nat):g.ren (rho [1,2] N)∈Lx++Hx.flatMap Blk.parts:=by
 simp only[Pl.ag,AK,AP,or_false] at hg;rcases hg with rfl|rfl
 ·exact A8 _ ha
 ·exact A7 _ hd
theorem bAll(s:Pm.Store)(hg:Pl.Good s)(htx:0<=s.2.2.1)(t:Pl.Tree)(ht:Pl.Qai s t=true):Pure A0 15 [.pd (rSt s),dTree t] (tPtrs (Pl.allT s t)):=by
 have hT:=Qcf ht;have dw:=bWalkP s hg t.depth.toNat t.root [] (Qg6 ht htx) (by have:=QcV (s:=s) hT.hi;unfold Pl.allT at this;grind) (by have:=hT.hi;omega);have e:((t.depth.toNat:Nat):Int)=t.depth:=by have:=hT.lo;omega
 rw[e,Al] at dw
 change Does _ _ _ _ _ _ (Pl.ab (Pl.allT s t)) at dw
 generalize Pl.allT s t=al at*;have hmem:=fun(l:List Pl.Ptr) (N:Nat)=>Qoj l N
 clear e hT ht;simp only[Pl.ab,Pl.ag] at dw;obtain⟨⟨p1,p2,p3,p4,p5⟩,depth,many⟩:=t;refine kE ?_;refine QbP 0 (h:=?_)
 repeat' first|refine kS ?_|refine(Qkq 1 0 5 31 (h:=?_))|refine qS (QdH rfl) ?_|refine(Qfy [1,2] dw cK (hgl:=fun g hg=>QrT _ _ g hg (by simp[AV.parts,go_sem]) (by simp[Blk.parts,AV.parts]) _) (k:=?_))|refine kU ?_|fail
 refine Qd5 [4] 3 (h:=?_);refine QbP 2 (h:=?_);refine QbQ (hx:=?_);rw[AB (by simp)]
def bUse1(s:Pm.Store)(hg:Pl.Good s)(htx:0<=s.2.2.1)(n:Pl.Node)(ht:Pl.Qai s n.tree=true):Pure A0 14 [dNode n,.pd (rSt s)] (dI (Pl.Qat s n)):=by
 have c:=bAll s hg htx n.tree ht;have hd:AY (Pl.Qat s n=((Pl.allT s n.tree).length:Nat)):=Pm.hid rfl;rw[hd.out];generalize Pl.allT s n.tree=al at*;clear hd ht;obtain⟨kd,links,size,⟨⟨p1,p2,p3,p4,p5⟩,depth,many⟩⟩:=n;simp only at c⊢;refine kE ?_;refine QbP 0 (h:=?_)
 repeat refine kA ?_
 exact QbQ (hx:=rfl)
theorem bSumC(s:Pm.Store)(t:Pl.Tree)(p:List UInt8)(hp:p.length<=1000000000000)(cS:Pure A0 58 [dSt s] (dB (Pl.Qan s)))(hg:Pl.Qan s=true->Pl.Good s/\0<=s.2.2.1)(hT:Pl.Qan s=true->Pl.QbO s)
 (f:FuncId) (cap:D) (F:Pl.Node->Int) (hf: ∀args w,(callFunc f args).run A0 w= .ok (.enter f args) w) (hF:Pl.Qan s=true-> ∀n:Pl.Node,Pl.Qai s n.tree=true->Pure A0 f [dNode n,cap] (dI (F n))) (hFb: ∀n:Pl.Node,Pl.Qai s n.tree=true->0<=F n/\F n<=1000000)
 (L:List Nat) (hL:Pl.Qan s=true->Pl.Qbm s t=true->Pl.Qb8 s (Pl.Qaa s t)=true-> ¬Pl.QaL s (Pl.Qaa s t) p<0->L.length<=1000/\Gr.FD (Pl.Qak (Pl.Qaj (Pl.Qaa s t))) (Pl.chF s (Pl.Qaa s t)) [(Pl.QaL s (Pl.Qaa s t) p).toNat] L):
 PureF A0 13 [.d (dSt s),.d (dTree t),.d (dS p),.fn (.func f) [.d cap]] (.tup [dI (Pl.sumP s t p F (Pl.Qa0 [] L)).1,dB (Pl.sumP s t p F (Pl.Qa0 [] L)).2]):=by
 have c1:=QnT s t cS hg hT;have hd:AY (Pl.sumP s t p F (Pl.Qa0 [] L)=if Pl.Qan s&&Pl.Qbm s t&&Pl.Qb8 s (Pl.Qaa s t) then(if Pl.QaL s (Pl.Qaa s t) p<0 then(0,false) else(Pl.Qbr F ((Pl.Qa0 [] L).map fun k=>(Pl.Qaj (Pl.Qaa s t)).getD k Pl.zn),true)) else(0,false)):=Pm.hid rfl;generalize Pl.sumP s t p F (Pl.Qa0 [] L)=res at*
 by_cases hok:(Pl.Qan s&&Pl.Qbm s t&&Pl.Qb8 s (Pl.Qaa s t))=true
 rotate_left
 ·have hbad:=Pm.hid (hd.out.trans (if_neg hok))
  obtain⟨a,ha⟩: ∃a,Pl.inD s t= .tup [a,dB false]:=by
   unfold Pl.inD Pl.QbH;simp only[A2,not_and] at hok;split
   ·split
    ·simp_all
    grind
   grind
  rw[ha] at c1;refine kF ?_;refine kR ?_;refine QbP 0 (h:=?_);refine QbP 1 (h:=?_)
  repeat refine kA ?_
  refine Qch (hx:=?_);rw[hbad.out]
 have hok':=hok;rw[A2,A2] at hok';obtain⟨⟨h1,h2⟩,h3⟩:=hok'
 have hin:Pl.inD s t= .tup [.pd (rFiles s t (Pl.Qaa s t) (Pl.dirM s (Pl.Qaa s t) (Pl.Qaa s t).length)),dB true]:=by
  unfold Pl.inD Pl.QbH
  grind
 rw[hin] at c1;have htab:Pl.QaI s t=true:=by unfold Pl.Qbm at h2;grind
 obtain⟨hx,hx16,_⟩:=Qhs htab
 have hgt: ∀y∈Pl.Qaa s t,y≠[]->Pl.Qai s (Pl.ng y).1.tree=true:=fun y hy hne=>by
  have h:=htab;unfold Pl.QaI at h
  grind
 have hFs:=hF h1;have hm:=Qrp s (Pl.Qaa s t);have hL:=hL h1 h2 h3;have hd2:=hd.out.trans (if_pos hok);clear hin hok htab h1 h2 h3 hd cS hg hT;generalize Pl.Qaa s t=x at*;generalize Pl.dirM s x x.length=m at*
 obtain⟨N,fine,c2,hr,hNb,hNl⟩: ∃(N:List Pl.Node) (fine:Bool),Pure A0 29 [.pd (rFiles s t x m),dS p] (.tup [.sl true 10 (N.map rNode),dB fine])/\res=(Pl.Qbr F N,fine)/\(∀n∈N,Pl.Qai s n.tree=true)/\N.length<=1000:=by
  by_cases hneg:Pl.QaL s x p<0
  ·exact⟨[],false,Qtt s t x m hm p hp hneg,by rw[hd2,if_pos hneg];rfl,fun n hn=>by simp at hn,by simp⟩
  ·obtain⟨hL1,hL2⟩:=hL hneg
   obtain⟨j,hj⟩:=AM (show 0<=Pl.QaL s x p by omega);rw[hj,AA] at hL2;refine⟨(Pl.Qa0 [] L).map fun k=>(Pl.Qaj x).getD k Pl.zn,true,?_,by grind,?_,?_⟩
   ·have:=QrI s t x hx m hm p hp j hj L hL1 hL2
    rw[Ap];exact this
   ·intro n hn
    obtain⟨k,hk,rfl⟩:=AX.1 hn;rw[Qg5] at hk;have hk:=hk.resolve_left (by simp);have hkd:=hL2.kinds k hk;rcases Qd9 hx k with⟨_,h⟩|⟨g1,g2,_⟩
    ·exfalso;unfold Pl.Qak at hkd;rw[h] at hkd;rcases hkd with h|h
     ·cases h
     ·cases h.1
    grind
   ·rw[A5];have:=(Qf1 L []).2.1;grind
 clear hd2 hL hm hx hx16 hgt hF;subst hr;have hFc:=Pm.hid (fun n hn=>hFs n (hNb n hn));have hNb:=Pm.hid (fun n hn=>hFb n (hNb n hn));clear hFs hFb;refine kF ?_;refine kR ?_;refine QbP 0 (h:=?_);refine QbP 1 (h:=?_)
 repeat refine kA ?_
 refine QbS (fun mm st=> ∃k:Nat,k<=N.length/\mm=N.length -k/\0<=Pl.Qbr F (N.take k)/\Pl.Qbr F (N.take k)<=k*1000000/\
  st=⟨45,[(31,.d (.sl true 10 (N.map rNode))),(32,.d (dI N.length)),(33,.d (dI k)),(14,.d (dI (Pl.Qbr F (N.take k)))),(3,.fn (.func f) [.d cap]),(13,.d (dB fine))],[]⟩) [31,32,33,14,3,13] 0 N.length ⟨0,by omega,rfl,by simp[Pl.Qbr],by simp[Pl.Qbr],by simp[keepE,go_sem,Pl.Qbr]⟩ (round:=?_)
 rintro mm st ⟨k,hk,rfl,hs1,hs2,rfl⟩
 repeat refine kG ?_
 cases q3:decide ((k:Int)<(N.length:Int))
 ·repeat refine kA ?_
  refine Qch (hx:=?_)
  grind
 have hk2:k<N.length:=by grind
 obtain⟨y,hy⟩: ∃y,N[k]? =some y:=⟨_,A3 hk2⟩;have hr:=QbV (f:=rNode) hy;have hyb:=hNb.out y (A6 hy)
 have hstep:AY (Pl.Qbr F (N.take (k+1))=Pl.Qbr F (N.take k)+F y):=Pm.hid (by
  unfold Pl.Qbr
  rw[AW,hy];simp)
 have c:=hFc.out y (A6 hy);clear hy hNb hFc;generalize hs:Pl.Qbr F (N.take (k+1))=s2 at*;generalize Pl.Qbr F (N.take k)=s1 at*;generalize F y=fy at*
 repeat' first|refine kS ?_|refine qS (iy hr) ?_|refine qS (Qd1 hf c rfl rfl) ?_|refine kU ?_|fail
 refine QbR (N.length -(k+1)) (by omega) ⟨k+1,by omega,rfl,?_,?_,?_⟩
 ·rw[hs,hstep.out];omega
 ·rw[hs,hstep.out];omega
 ·rw[hs,hstep.out];simp[keepE,go_sem]
def Qpn(s:Pm.Store)(t:Pl.Tree)(p:List UInt8)(r:Int×Bool)(c:PureF A0 13 [.d (dSt s),.d (dTree t),.d (dS p),.fn (.func 14) [.d (.pd (rSt s))]] (.tup [dI r.1,dB r.2])):
 Pure A0 5 [dSt s,dTree t,dS p] (.tup [dI r.1,dB r.2]):=by
 obtain⟨a,b⟩:=r;simp only at c⊢;refine kE ?_;refine QbP 0 (h:=?_);refine QbP 1 (h:=?_)
 repeat' first|refine kS ?_|refine qS (QdH rfl) ?_|refine qS (QcY cK c rfl rfl) ?_|refine kU ?_|fail
 exact QbQ (hx:=rfl)
def Ql7(s:Pm.Store)(hl:Pl.Lens s)(t:Pl.Tree)(p:List UInt8)(hp:p.length<=1000000000000):
 Pure A0 5 [dSt s,dTree t,dS p] (.tup [dI (Pl.Qay s t p (Pl.Qat s)).1,dB (Pl.Qay s t p (Pl.Qat s)).2]):=by
 obtain⟨L,hL,hs⟩:=Qsk s t p (Pl.Qat s) (Pl.Qat s) (fun _ _=>rfl);rw[<-hs];have hg:Pl.Qan s=true->Pl.Good s/\0<=s.2.2.1:=fun h=>⟨QcL h,QdK h⟩
 refine Qpn s t p _ (bSumC s t p hp (QnS s hl.b1 hl.b2 hl.b3 hl.b4) hg (fun h=>bText s (hg h).1 (hg h).2 (Qjc s)) _ _ (Pl.Qat s) Tryz.call14 (fun h n hn=>bUse1 s (hg h).1 (hg h).2 n hn) (fun n hn=>?_) L hL);have:=QcV (s:=s) (Qcf hn).hi;unfold Pl.Qat;omega
def Pl.allN(s:Pm.Store)(x:List (List UInt8)):List Pl.Ptr:=x.flatMap fun y=>if y=[] then [] else Pl.allT s (Pl.ng y).1.tree
def QiE(s:Pm.Store){x:List (List UInt8)}{n:Nat}{y:List UInt8}(hy:x[n]? =some y):Pl.allN s (x.take (n+1))=Pl.allN s (x.take n)++(if y=[] then [] else Pl.allT s (Pl.ng y).1.tree):=by
 unfold Pl.allN;rw[AW,hy];simp only[Option.toList,Ac,List.flatMap_cons,List.flatMap_nil,AD]
def Qty(s:Pm.Store)(t:Pl.Tree):((Pl.allN s (Pl.Qaa s t)).length:Int)=Pl.Qbk s t:=by
 unfold Pl.Qbk Pl.Qab;generalize Pl.Qaa s t=x;obtain⟨F,hF⟩: ∃F:Nat->Int,F=fun k=>Pl.Qat s ((x.map fun y=>(Pl.ng y).1).getD k Pl.zn):=⟨_,rfl⟩
 rw[<-hF]
 have key: ∀n,n<=x.length->((Pl.allN s (x.take n)).length:Int)=Pl.QaJ F n:=by
  intro n;induction n with
  |zero=>intro _;rw[Ab];rfl
  |succ n ih=>
   intro hn;obtain⟨y,hy⟩: ∃y,x[n]? =some y:=⟨_,A3 (by omega)⟩
   have e2:F n=Pl.Qat s (Pl.ng y).1:=by
    rw[hF];show Pl.Qat s ((x.map fun y=>(Pl.ng y).1).getD n Pl.zn)=_;rw[AG,AO,hy];rfl
   have ih:=ih (by omega);show _=Pl.QaJ F n+F n;rw[QiE s hy,e2,<-ih,A4]
   by_cases h:y=[]
   ·rw[if_pos h,h,QhN,Qp8];simp
   ·rw[if_neg h];unfold Pl.Qat;omega
 have:=key x.length (AQ _);rw[AJ] at this;rw[A5];exact this
def QrQ(s:Pm.Store){x:List (List UInt8)}(h: ∀y∈x,y≠[]->Pl.Qai s (Pl.ng y).1.tree=true): ∀k,k<=x.length->(Pl.allN s (x.take k)).length<=k*21
 |0,_=>by rw[Ab];exact AQ _
 |k+1,hk=>by
  have ih:=QrQ s h k (by omega);obtain⟨y,hy⟩: ∃y,x[k]? =some y:=⟨_,A3 (by omega)⟩;rw[QiE s hy,A4];split
  ·simp only[Am];omega
  ·rename_i hn
   have:=QcV (s:=s) (Qcf (h y (A6 hy) hn)).hi;omega
def QhB{s:Pm.Store}{t:Pl.Tree}(htab:Pl.QaI s t=true):Pl.Qai s t=true/\ ∀y∈Pl.Qaa s t,y≠[]->Pl.Qai s (Pl.ng y).1.tree=true:=by
 unfold Pl.QaI at htab;rw[A2,AH] at htab;refine⟨htab.1,fun y hy hne=>?_⟩;have h:=htab.2 y hy;rw[AC,A2] at h;rcases h with h|h
 ·exact absurd (by simpa using h) hne
 ·exact h.2
def bCloneP(l:List Pl.Ptr)(hl:l.length<=1000)(hn:l≠[]):Pure A0 83 [tPtrs l] (tPtrs l):=by
 obtain⟨a,l,rfl⟩:=AS hn;refine kB ?_
 repeat' first|refine kS ?_|refine qS (QhX Tryz.underlying27 rfl) ?_|refine(QcG Ty.h rfl Ty.h (hcell:=?_) (hb:=?_) (kk:=?_))|refine kU ?_|fail
 ·exact Qco (a::l)
 ·show(0+((a::l).map rPtr).length)*40<=140737488355328
  rw[A5];omega
 ·refine QbP 0 (h:=?_)
  refine QbQ (hx:=?_);rw[AB (by simp)];rfl
def bClipP(l:List Pl.Ptr)(hl:l.length<=1000):Pure A0 42 [tPtrs l] (tPtrs l):=by
 have h0:(0:Int)<=l.length:=by omega
 have h1:(l.length:Int)<=((l.map rPtr).length:Int):=by rw[A5];exact Ak _
 refine kB ?_
 repeat' first|refine kS ?_|refine qS (Qla rfl rfl rfl rfl h0 h1) ?_|refine kU ?_|fail
 all_goals first
  |(refine QbQ (hx:=?_)
    rw[AA,<-List.map_take,AJ])
def QmM(s:Pm.Store)(cS:Pure A0 58 [dSt s] (dB true))(hg:Pl.Good s)(htx:0<=s.2.2.1)(t:Pl.Tree)(ht:Pl.Qai s t=true)(hm:1<=t.many):Pure A0 40 [dSt s,dTree t] (.tup [tPtrs (Pl.Qao s t).1,dB true]):=by
 have c1:=bLeaves s hg htx t;have e2:(Pl.Qao s t).2=true:=by unfold Pl.Qao;rw[if_pos ht]
 have hlen:=QdU ht;rw[e2] at c1;generalize (Pl.Qao s t).1=l at*;have c2:=bCloneP l (by omega) (fun e=>by rw[e] at hlen;simp at hlen;omega);clear hlen e2 ht hm;refine kE ?_;refine QbP 0 (h:=?_);refine QbP 1 (h:=?_)
 repeat refine kA ?_
 all_goals first|exact QbQ (hx:=rfl)
def bTreeOk(s:Pm.Store)(t:Pl.Tree)(a:D)(c:Pure A0 40 [dSt s,dTree t] (.tup [a,dB true])):Pure A0 20 [dSt s,dTree t] (dB true):=by
 refine kE ?_;refine QbP 0 (h:=?_);refine QbP 1 (h:=?_)
 repeat refine kA ?_
 all_goals first|exact QbQ (hx:=rfl)
def Qtj(s:Pm.Store)(cS:Pure A0 58 [dSt s] (dB true))(hg:Pl.Good s)(htx:0<=s.2.2.1)(t:Pl.Tree)(ht:Pl.Qai s t=true)(hm:1<=t.many):Pure A0 7 [dSt s,dTree t] (.tup [tPtrs (Pl.allT s t),dB true]):=by
 have c1:=bTreeOk s t _ (QmM s cS hg htx t ht hm);have c2:=bAll s hg htx t ht;refine kE ?_;refine QbP 0 (h:=?_);refine QbP 1 (h:=?_)
 repeat refine kA ?_
 all_goals first|exact QbQ (hx:=rfl)
def dAllP(s:Pm.Store)(hg:Pl.Good s)(htx:0<=s.2.2.1)(t:Pl.Tree)(ht:Pl.Qai s t=true):Does A0 15 [.d (.pd (rSt s)),.d (dTree t)] [] [] (.osl 0 (Pl.allT s t).length 0 (Pl.allT s t).length) [.arr (Pl.allT s t).length 5 31 ((Pl.allT s t).map rPtr)]:=by
 have hT:=Qcf ht;have dw:=bWalkP s hg t.depth.toNat t.root [] (Qg6 ht htx) (by have:=QcV (s:=s) hT.hi;unfold Pl.allT at this;simp only[Am];omega) (by have:=hT.hi;omega);have e:((t.depth.toNat:Nat):Int)=t.depth:=by have:=hT.lo;omega
 rw[e,Al] at dw
 change Does _ _ _ _ _ _ (Pl.ab (Pl.allT s t)) at dw
 generalize Pl.allT s t=al at*;have hmem:=fun(l:List Pl.Ptr) (N:Nat)=>Qoj l N
 clear e hT ht;simp only[Pl.ab,Pl.ag] at dw;obtain⟨⟨p1,p2,p3,p4,p5⟩,depth,many⟩:=t;refine kL ?hpin fun gvs=>?_
 case hpin=>intro i C hC;simp at hC
 simp only[parA,gslot,A9];refine kR ?_;refine QbP 0 (h:=?_)
 repeat' first|refine kS ?_|refine(Qkq 1 0 5 31 (h:=?_))|refine qS (QdH rfl) ?_|refine(Qfy [1,2] dw cK (hgl:=fun g hg=>QrT _ _ g hg (by simp[AV.parts,go_sem]) (by simp[Blk.parts,AV.parts]) _) (k:=?_))|refine kU ?_|fail
 refine QcO [4,1000000] [2] (env':=[(4,.osl 0 al.length 0 al.length),(1000000,.gh [] gvs)]) (H':=[.arr al.length 5 31 (al.map rPtr)]) (h:=?_);exact Qdk (hx:=rfl) (hH:=rfl)
def QrB(s:Pm.Store)(hg:Pl.Good s)(htx:0<=s.2.2.1)(t:Pl.Tree)(ht:Pl.QaI s t=true):Pure A0 22 [.pd (rSt s),dTree t] (tPtrs (Pl.allT s t++Pl.allN s (Pl.Qaa s t))):=by
 obtain⟨htt,hgt⟩:=QhB ht;have d1:=dAllP s hg htx t htt;have c2:=bNodes s hg htx t;rw[ht,if_pos rfl] at c2;have hx16:=(Qhs ht).2.1;have hA:=QcV (s:=s) (Qcf htt).hi;have hgt:=Pm.hid hgt;have hnb:=Pm.hid (QrQ s hgt.out)
 have hcl:AY ((Pl.allT s t++Pl.allN s (Pl.Qaa s t)).length<=1000):=Pm.hid (by
  have:=hnb.out (Pl.Qaa s t).length (AQ _);rw[AJ] at this
  rw[A4];omega)
 have cc:=bClipP _ hcl.out;clear hcl htt ht;generalize Pl.Qaa s t=x at*;generalize Pl.allT s t=A at*;refine kE ?_;refine QbP 0 (h:=?_)
 repeat' first|refine kS ?_|refine(Qfy [] d1 cK (hgl:=fun g hg=>by cases hg) (k:=?_))|refine kU ?_|fail
 refine QbS (fun mm st=> ∃(k g:Nat) (out:List Pl.Ptr),k<=x.length/\mm=x.length -k/\AY (out=A++Pl.allN s (x.take k))/\
  st=⟨38,[(19,.d (tNds x)),(20,.d (dI x.length)),(21,.d (dI k)),(0,.d (.pd (rSt s))),(5,.osl 1 g 0 out.length)],[.row 1 [],.arr g 5 31 (out.map rPtr)]⟩) [19,20,21,0,5] 2 x.length
  ⟨0,A.length,A,by omega,rfl,Pm.hid (by rw[Ab];unfold Pl.allN;simp),by simp[keepE,go_sem]⟩ (round:=?_)
 rintro mm st ⟨k,g,out,hk,rfl,hO,rfl⟩
 repeat refine kG ?_
 cases q3:decide ((k:Int)<(x.length:Int))
 ·have:k=x.length:=by simp at q3;omega
  rw[this,AJ] at hO;rw[<-hO.out] at cc⊢
  repeat refine kA ?_
  refine Qdl 1 (h:=?_)
  repeat refine kA ?_
  all_goals first|exact QbQ (hx:=rfl)
 have hk2:k<x.length:=by simp at q3;omega
 obtain⟨y,hy⟩: ∃y,x[k]? =some y:=⟨_,A3 hk2⟩;have hr:=QbV (f:=fun x=>[Pl.ndD x]) hy;have hst:=Pm.hid (QiE s hy)
 have hol:out.length<=21+k*21:=by
  have:=hnb.out k hk;rw[hO.out,A4];omega
 by_cases hyn:y=[]
 ·have hnd:Pl.ndD y= .v (.pointer none):=by unfold Pl.ndD;rw[if_pos hyn]
  simp only[hnd] at hr;have hO2:AY (out=A++Pl.allN s (x.take (k+1))):=Pm.hid (by rw[hst.out,if_pos hyn,AD];exact hO.out);clear hst hO hnb hgt hy hnd cc
  repeat' first|refine kS ?_|refine qS (iy hr) ?_|refine qS (Qhe AE rfl) ?_|refine kU ?_|fail
  all_goals first
   |(exfalso;simp at*;done)
   |(refine QbR (x.length -(k+1)) (by omega) ⟨k+1,g,out,by omega,rfl,hO2,?_⟩
     simp[keepE,go_sem];done)
 ·have hnd:Pl.ndD y= .pd (rNode (Pl.ng y).1):=by unfold Pl.ndD;rw[if_neg hyn]
  simp only[hnd] at hr;have hty:=hgt.out y (A6 hy) hyn;have c:=bAll s hg htx _ hty;have hal:=QcV (s:=s) (Qcf hty).hi;have hO2:AY (out++Pl.allT s (Pl.ng y).1.tree=A++Pl.allN s (x.take (k+1))):=Pm.hid (by rw[hst.out,if_neg hyn,<-AU,<-hO.out]);clear hst hO hnb hgt hy hnd cc hty;generalize Pl.allT s (Pl.ng y).1.tree=new at*;generalize (Pl.ng y).1=nn at*;obtain⟨kind,links,size,⟨⟨p1,p2,p3,p4,p5⟩,depth,many⟩⟩:=nn;simp only at c
  repeat' first|refine kS ?_|refine qS (iy hr) ?_|refine qS (Qgh AE rfl) ?_|refine qS (Qcv rfl) ?_|refine(QcG Ty.h rfl Ty.h (hcell:=?_) (hb:=?_) (kk:=?_))|refine kU ?_|fail
  all_goals first
   |(exfalso;simp at*;done)
   |exact Qco new
   |(show((out.map rPtr).length+(new.map rPtr).length)*40<=140737488355328
     rw[A5,A5];omega)
   |(refine QbR (x.length -(k+1)) (by omega) ⟨k+1,g+1,out++new,by omega,rfl,hO2,?_⟩
     simp[keepE,go_sem];done)
