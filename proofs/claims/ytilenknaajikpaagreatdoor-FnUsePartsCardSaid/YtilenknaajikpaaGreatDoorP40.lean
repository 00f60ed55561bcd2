/- Of parts_card; no condition. -/
import Derived.Test.YtilenknaajikpaaGreatDoorP39
set_option linter.all false
set_option maxRecDepth 100000
set_option maxHeartbeats 16000000
open Go.Proofs.Tryz renaming prog->A1
open List renaming getElem?_eq_getElem->A0
namespace Go.Proofs.YtilenknaajikpaaGreatDoor
noncomputable section
open Go.RowKit
namespace Aw
attribute [local irreducible] ASeq ADraw AWP Loc AStep Fg.PlanF Fg.Flts EndR Fk.PlanF Fk.Flts Fk.AStepM Fk.Grew Fk.Gs
def Qs7(rows:List (List D))(hr:RdOk rows):DoesE A1 4 [.d (.sl true 1 rows)] [] [] UseQ:=by
 refine kH fun gvs=>?_
 repeat' first|refine kS ?_|(refine QD [] (eOpen rows hr) cK (k:=?_);rintro _ _ ⟨r,hr2,rfl,rfl⟩;refine QdF (k:=?_))|refine kU ?_|fail
 refine QD [2] (eTable r hr2 0 (by decide)) Tryz.call16 (k:=?_);rintro _ _ ⟨s,t,p1,hL,hp1,rfl,rfl⟩;refine QdF (k:=?_);obtain⟨v,ev,lv⟩:=QfI hr2 (p1+2) (n:=3) (by decide);have c:=ePick r hr2 (p1+2) (by omega) 3 (by decide);rw[ev] at c;have cp:=ePathX r hr2 p1 (by omega);have hpl:=pth_len r p1;have hget:(([[47],[47,97],QcB r p1]:List (List UInt8)).map fun s=>[dS s])[((v:Nat):Int).toNat]? =some _:=QdM (f:=fun s=>[dS s]) _ [] (n:=3) rfl (by omega);have hql:(([[47],[47,97],QcB r p1]:List (List UInt8)).getD v []).length<=12:=Qhs (p:=fun x:List UInt8=>x.length<=12) (by intro x hx;simp only[List.mem_cons,List.not_mem_nil,or_false] at hx;rcases hx with rfl|rfl|rfl;decide;decide;exact hpl) (by decide) _;generalize ([[47],[47,97],QcB r p1]:List (List UInt8)).getD v []=q at*;generalize QcB r p1=pt at*
 repeat' first|refine kS ?_|(show AWP _ (.region 3 _ _) _ _;refine(Qa 3 (h:=Qa 4 (h:=Fk.awp_drawG2 (id:=3) [0,1,4,5,7,8] [3,6,9,10] [] [] 3 18 (.d (dS pt)) 6 21 (.d (dI v)) ?_))))|refine(Fk.aw_fltL (hl:=fun H=>Qd8 Ty.h rfl Ty.h) (k:=?_))|refine(Fk.aw_fltL (hl:=fun H=>Qdc Ty.h rfl Ty.h rfl rfl rfl (by omega) hget) (k:=?_))|refine Fk.aw_callM [2] cp cK (k:=kY ?_)|refine Fk.aw_callM [2] c cK (k:=kY ?_)|refine kU ?_|fail
 all_goals first|refine QN 0 (hx:=?_);exact⟨s,t,q,hL,hql,rfl,rfl⟩
def QpK{dst:Option Tmp}{T' ty:TypeId}{pos:String}{after:Array Edge}{gd:Option (Nat×Bool)}{env:List (Nat×AV)}{H:List Blk}{x y:Tmp}{e:Ql}(hx:aval env (.tmp x)= .d (.agg (rEnt e)))(hy:aval env (.tmp y)= .d (.agg (rEnt e))):
 Loc A1 ⟨dst,.binOp .neq 56 (.tmp x) (.tmp y) T',ty,pos,after,gd⟩ env H (.d (dB false)) none:=
 loc_bin' (X:= .agg #[.string ⟨e.1.toArray⟩,.int .i64 e.2]) (Y:= .agg #[.string ⟨e.1.toArray⟩,.int .i64 e.2]) (by rw[hx];rfl) (by rw[hy];rfl) fun w=>by
  obtain⟨a,b⟩:=e
  go_simp
def Qqq(l:List Ql)(hl:l.length<=12):Pure A1 7 [tEnts l,tEnts l] (dB true):=by
 refine kB ?_
 repeat' first|refine kA ?_|refine kV ?_ ?_<;>intro q|fail
 all_goals first|exfalso;simp at*;done|skip
 refine Qs (fun mm st=> ∃k:Nat,k<=l.length/\mm=l.length -k/\st=⟨26,[(0,.d (tEnts l)),(1,.d (tEnts l)),(5,.d (dI k))],[]⟩) [0,1,5] 0 l.length ⟨0,by omega,rfl,by simp[keepE,go_sem]⟩ (round:=?_);rintro mm st ⟨k,hk,rfl,rfl⟩
 repeat refine kG ?_
 cases q3:decide ((k:Int)<(l.length:Int))
 ·repeat refine kA ?_
  exact Qb (hx:=rfl)
 have hk2:k<l.length:=by simp at q3;omega
 obtain⟨e,he⟩: ∃e,l[k]? =some e:=⟨_,A0 hk2⟩;have hr:=Qu (f:=rEnt) he
 repeat' first|refine kS ?_|refine qD (iy hr) ?_|refine qD (QpK (e:=e) rfl rfl) ?_|refine kU ?_|fail
 all_goals first|exact Qn (l.length -(k+1)) (by omega) ⟨k+1,by omega,rfl,by simp[keepE,go_sem]⟩
def exParts(rows:List (List D))(hr:RdOk rows):Pure A1 3 [.sl true 1 rows] (dB true):=by
 refine kE ?_
 repeat' first|refine kS ?_|(refine QD [] (Qs7 rows hr) cK (k:=?_);rintro _ _ ⟨s,t,p,hL,hp,rfl,rfl⟩;refine QdF (k:=?_))|refine kU ?_|refine kV ?_ ?_<;>intro q|fail
 all_goals first|exact Qb (hx:=rfl)|skip
 have c1:=(Qqx s hL t p (by omega)).arg (l:=[tSt s,dTree t,dS p]);have c2:=(Qq6 s hL t p (by omega)).arg (l:=[tSt s,dTree t,dS p]);have hall:=Qry s hL t p hp;have hel:=QpO s t p;have ce:=Qqq (Qaq s t p).1 hel;generalize Qaq s t p=res at*;obtain⟨es,ok⟩:=res;simp only at c1 c2 ce hall hel;cases ok
 ·clear hall
  repeat refine kA ?_
  all_goals first|exact Qb (hx:=rfl)|exfalso;simp at*;done
 ·obtain⟨J,u,v,A,U,j,ids,wk,n,b,hA,hu,hi,hw,_,hv,hsum,k1,k2,k3,k4,k5,k6,k7,k8⟩:=hall rfl
  clear hall
  replace k1:=k1.arg (l:=[tSt s,dTree t])
  replace k2:=k2.arg (l:=[tSt s,dTree t])
  replace k3:=k3.arg (l:=[tSt s,dTree t,dS p])
  replace k4:=k4.arg (l:=[tSt s,dTree t,dI j])
  replace k5:=k5.arg (l:=[tSt s,dTree n.tree])
  replace k8:=k8.arg (l:=[tSt s,dTree t,dS p])
  have k7:=fun e=>(k7 e).arg (l:=[tSt s,dTree t,dS (J e).1])
  change Pure _ _ _ (.tup [.sl true 5 (A.map rPtr),dB true]) at k5
  have eR:(A.map rPtr).length=A.length:=by simp
  rw[<-eR] at hA hsum;clear eR;generalize A.map rPtr=R at*;obtain⟨kd,links,size,⟨⟨q1,q2,q4,q5,q6⟩,depth,many⟩⟩:=n;simp only at k4 k5;have hu:=Pm.hid hu;have hv:=Pm.hid hv;have hsum:=Pm.hid hsum;have k6:=Pm.hid k6;have k7:=Pm.hid k7
  repeat refine kA ?_
  all_goals first|exfalso;simp at*;done|skip
  refine Qa 0 (h:=?_);refine Qa 1 (h:=?_)
  refine Qs (fun mm st=> ∃(k:Nat) (sm:Int),k<=es.length/\mm=es.length -k/\Hid (∀e∈es.take k,(J e).2=true)/\Hid (sm=(R.length:Nat)+((es.take k).map u).sum)/\0<=sm/\sm<=21+k*336/\
   st=⟨159,[(3,.d (.pd [.sl true 1 (rS s.1),.sl true 1 (rI s.2.1.1),.sl true 1 (rI s.2.1.2),dI s.2.2.1,.sl true 5 (s.2.2.2.1.map rPtr),dI s.2.2.2.2.1,.sl true 5 (s.2.2.2.2.2.1.map rPtr),dB s.2.2.2.2.2.2])),(4,.d (.pd (rTree t))),(5,.d (dS p)),(6,.d (tEnts es)),(20,.d (dI sm)),(21,.d (dI k)),(10,.d (.sl true 1 ids)),(12,.d (.sl true 2 wk))],[.row 1 [],.row 1 []]⟩)
   [3,4,5,6,20,21,10,12] 2 es.length ⟨0,(R.length:Nat),by omega,rfl,Pm.hid (by simp),Pm.hid (by simp),?_,?_,by simp[keepE,go_sem]⟩ (round:=?_)
  ·omega
  ·omega
  rintro mm st ⟨k,sm,hk,rfl,hJ,hS,h0,h1,rfl⟩;clear k1 k2 k3 k4 k5 c1 c2 ce
  repeat refine kG ?_
  cases q3:decide ((k:Int)<(es.length:Int))
  ·have hke:k=es.length:=by simp at q3;omega
   have hfin:Hid (wk.length=ids.length->U=sm):=Pm.hid fun h=>by
    have hJ:=hJ.out;have hS:=hS.out;rw[hke,List.take_length] at hJ hS;rw[hS];exact hsum.out hJ h
   clear hJ hS hsum hv hu k6 k7
   repeat' first|refine kA ?_|refine kV ?_ ?_<;>intro q|fail
   all_goals first
    |exact Qb (hx:=rfl)
    |(have hq:wk.length=ids.length:=by have:=q;simp at this;omega
      have hU:=hfin.out hq;refine Qb (hx:=?_)
      rw[hU];simp)
  have hk2:k<es.length:=by simp at q3;omega
  obtain⟨e,he⟩: ∃e,es[k]? =some e:=⟨_,A0 hk2⟩;have hem:=List.mem_of_getElem? he;have hr:=Qu (f:=rEnt) he;have htk:es.take (k+1)=es.take k++[e]:=by rw[List.take_add_one,he];rfl
  have c6:=k6.out e hem;have c7:=k7.out e;have hve:=hv.out e hem;have hue:=hu.out e;have hS2:Hid (sm+u e=(R.length:Nat)+((es.take (k+1)).map u).sum):=Pm.hid (by rw[hS.out,htk];simp[Int.add_assoc])
  have hJ2:Hid ((J e).2=true-> ∀e∈es.take (k+1),(J e).2=true):=Pm.hid fun h x hx=>by
   rw[htk] at hx;rcases List.mem_append.1 hx with hx|hx
   ·exact hJ.out x hx
   ·rw[List.mem_singleton.1 hx];exact h
  clear hJ hS hsum hv hu k6 k7 htk hem he;generalize J e=je at*;generalize u e=ue at*;generalize v e=ve at*;obtain⟨pt,fine⟩:=je;simp only at c6 c7 hve hJ2;obtain⟨nm,id⟩:=e;simp only at c6;cases fine
  ·repeat' first|refine kS ?_|refine qS (iy hr) ?_|refine kU ?_|fail
   all_goals first|exact Qb (hx:=rfl)
  ·obtain rfl:=hve rfl
   have hJ3:=Pm.hid (hJ2.out rfl)
   repeat' first|refine kS ?_|refine qS (iy hr) ?_|refine kU ?_|fail
   all_goals first|exact Qn (es.length -(k+1)) (by omega) ⟨k+1,sm+ue,by omega,rfl,hJ3,hS2,by omega,by omega,by simp[keepE,go_sem]⟩
