/- Of ftw_card; no condition. -/
import Derived.Test.YthbonbflkdonkaaGreatDoorP41
import Derived.Test.YthbonbflkdonkaaGreatDoorP49
set_option linter.all false
set_option maxRecDepth 100000
set_option maxHeartbeats 16000000
open Go.Proofs.Tryz renaming prog->A3
open List renaming getElem?_eq_getElem->A0,mem_of_getElem?->A1,mem_singleton->A2
namespace Go.Proofs.YthbonbflkdonkaaGreatDoor
noncomputable section
open Go.RowKit
namespace Aw
def TwinQ(x:AV)(H:List Blk):Prop:= ∃(s:Pm.Store) (t:Pl.Tree),QbL s/\x= .tup [.d (tSt s),.d (dTree t)]/\H=[]
attribute [local irreducible] ASeq ADraw AWP Loc AStep Fg.PlanF Fg.Flts EndR Fk.PlanF Fk.Flts Fk.AStepM Fk.Grew Fk.Gs
def Qp6(rows:List (List D))(hr:RdOk rows):DoesE A3 4 [.d (.sl true 1 rows)] [] [] TwinQ:=by
 refine kH fun gvs=>?_
 repeat' first|refine kS ?_|(refine QC [] (eOpen rows hr) cK (k:=?_);rintro _ _ ⟨r,hr2,rfl,rfl⟩;refine QdE (k:=?_))|refine kU ?_|fail
 refine QC [2] (eTable r hr2 0 (by decide)) Tryz.call11 (k:=?_);rintro _ _ ⟨s,t,p1,hL,hp1,rfl,rfl⟩;refine QdE (k:=?_)
 repeat' first|refine kS ?_|(show AWP _ (.region 3 _ _) _ _;refine(Qa 3 (h:=Qa 4 (h:=Fg.awp_drawF (id:=3) [0,1] [2,3] ?_))))|refine kU ?_|fail
 all_goals first|refine Qdz 0 (hx:=?_);exact⟨s,t,hL,rfl,rfl⟩
def QtS(l:List (List UInt8))(hl:l.length<=1000):Pure A3 7 [tStrs l,tStrs l] (dB true):=by
 refine kB ?_
 repeat' first|refine kA ?_|refine kV ?_ ?_<;>intro q|fail
 all_goals first|exfalso;simp at*;done|skip
 refine Qq (fun mm st=> ∃k:Nat,k<=l.length/\mm=l.length -k/\st=⟨26,[(0,.d (tStrs l)),(1,.d (tStrs l)),(5,.d (dI k))],[]⟩) [0,1,5] 0 l.length ⟨0,by omega,rfl,by simp[keepE,go_sem]⟩ (round:=?_);rintro mm st ⟨k,hk,rfl,rfl⟩
 repeat refine kG ?_
 cases q3:decide ((k:Int)<(l.length:Int))
 ·repeat refine kA ?_
  exact Qb (hx:=rfl)
 have hk2:k<l.length:=by simp at q3;omega
 obtain⟨e,he⟩: ∃e,l[k]? =some e:=⟨_,A0 hk2⟩;have hr:=Qs (f:=fun s=>[dS s]) he
 repeat' first|refine kS ?_|refine qD (iy hr) ?_|refine qD (Qd8 (l:=e) (m:=e) rfl rfl) ?_|refine kU ?_|refine kV ?_ ?_<;>intro q|fail
 all_goals first|exact Qg (l.length -(k+1)) (by omega) ⟨k+1,by omega,rfl,by simp[keepE,go_sem]⟩|exfalso;simp at*;done
def Qnx(s:Pm.Store)(hl:QbL s)(t:Pl.Tree):Pure A3 5 [dSt s,dTree t] (.tup [tStrs (Qa6 s t).1,dB (Qa6 s t).2]):=
 Does.pure (ds:=[dSt s,dTree t]) (dTwins s hl t) (by simp[AV.ice,List.take_of_length_le])
def exTwins(rows:List (List D))(hr:RdOk rows):Pure A3 3 [.sl true 1 rows] (dB true):=by
 refine kE ?_
 repeat' first|refine kS ?_|(refine QC [] (Qp6 rows hr) cK (k:=?_);rintro _ _ ⟨s,t,hL,rfl,rfl⟩;refine QdE (k:=?_))|refine kU ?_|refine kV ?_ ?_<;>intro q|fail
 all_goals first|exact Qb (hx:=rfl)|skip
 have c1:=(Qnx s hL t).arg (l:=[tSt s,dTree t]);have c2:=(Qn5 s hL t).arg (l:=[tSt s,dTree t]);have hel:=Qql s t;have ce:=QtS (Qa6 s t).1 (by omega);have hlaw:=Qqm (s:=s) (t:=t);have hsh:=Qmv (s:=s) (t:=t);have cF:=fun p (hp:p.length<=1000)=>(Qny s hL t p (by omega)).arg (l:=[tSt s,dTree t,dS p])
 have cX:=fun p (hp:p.length<=1000)=>(QpO s hL t p (by omega)).arg (l:=[tSt s,dTree t,dS p])
 generalize Qa6 s t=res at*;generalize Qad s t=fi at*;generalize QbG s t=tx at*;obtain⟨es,ok⟩:=res;simp only at c1 c2 ce hel hlaw hsh;cases ok
 ·clear hlaw hsh cF cX
  repeat refine kA ?_
  all_goals first|exact Qb (hx:=rfl)|exfalso;simp at*;done
 ·replace hlaw:=Pm.hid (hlaw rfl)
  replace hsh:=Pm.hid (hsh rfl)
  replace cF:=Pm.hid cF
  replace cX:=Pm.hid cX
  repeat refine kA ?_
  all_goals first|exfalso;simp at*;done|skip
  refine Qa 0 (h:=?_);refine Qa 1 (h:=?_)
  refine Qq (fun mm st=> ∃k:Nat,k<=es.length/\mm=es.length -k/\
   st=⟨138,[(3,.d (.pd [.sl true 1 (rS s.1),.sl true 1 (rI s.2.1.1),.sl true 1 (rI s.2.1.2),dI s.2.2.1,.sl true 5 (s.2.2.2.1.map rPtr),dI s.2.2.2.2.1,.sl true 5 (s.2.2.2.2.2.1.map rPtr),dB s.2.2.2.2.2.2])),(4,.d (.pd (rTree t))),(5,.d (tStrs es)),(10,.d (dI k))],[.row 1 [],.row 1 []]⟩)
   [3,4,5,10] 2 es.length ⟨0,by omega,rfl,by simp[keepE,go_sem]⟩ (round:=?_)
  rintro mm st ⟨k,hk,rfl,rfl⟩;clear c1 c2 ce
  repeat refine kG ?_
  cases q3:decide ((k:Int)<(es.length:Int))
  ·have h1:es.length≠1:=fun h=>by
    obtain⟨x,rfl⟩:=List.length_eq_one_iff.1 h;obtain⟨y,hy,hxy,_⟩:=hlaw.out x List.mem_cons_self;exact hxy (A2.1 hy).symm
   repeat refine kA ?_
   all_goals first|exact Qb (hx:=by simp;omega)
  have hk2:k<es.length:=by simp at q3;omega
  obtain⟨x,hx⟩: ∃x,es[k]? =some x:=⟨_,A0 hk2⟩;have hxm:=A1 hx;have hr:=Qs (f:=fun s=>[dS s]) hx;have c3:=cF.out x (hsh.out x hxm);have c4:=cX.out x (hsh.out x hxm);obtain⟨y,hym,_,hxy⟩:=hlaw.out x hxm;generalize fi x=a at*;generalize tx x=b at*;obtain⟨a,p⟩:=a;obtain⟨b,q⟩:=b;simp only at c3 c4 hxy;have hxy:=Pm.hid hxy;clear hx hxm hlaw
  repeat' first|refine kS ?_|refine qD (iy hr) ?_|refine kU ?_|fail
  refine Qq (fun mm st=> ∃(j:Nat) (tw:Bool),j<=es.length/\mm=es.length -j/\Hid (tw=false-> ∀z∈es.take j,(fi z).2=true/\ ¬(a≠(fi z).1/\b=(tx z).1))/\
   st=⟨138,[(3,.d (.pd [.sl true 1 (rS s.1),.sl true 1 (rI s.2.1.1),.sl true 1 (rI s.2.1.2),dI s.2.2.1,.sl true 5 (s.2.2.2.1.map rPtr),dI s.2.2.2.2.1,.sl true 5 (s.2.2.2.2.2.1.map rPtr),dB s.2.2.2.2.2.2])),(4,.d (.pd (rTree t))),(5,.d (tStrs es)),(10,.d (dI k)),(11,.d (dI a)),(12,.d (dB p)),(13,.d (dS b)),(14,.d (dB q)),(15,.d (dB tw)),(16,.d (dI j))],[.row 1 [],.row 1 []]⟩)
   [3,4,5,10,11,12,13,14,15,16] 2 es.length ⟨0,false,by omega,rfl,Pm.hid (fun _ z hz=>by simp at hz),by simp[keepE,go_sem]⟩ (round:=?_)
  rintro mm st ⟨j,tw,hj,rfl,hI,rfl⟩;clear c3 c4 hr
  repeat refine kG ?_
  cases q4:decide ((j:Int)<(es.length:Int))
  ·have hje:j=es.length:=by simp at q4;omega
   have hend:p=true->tw=false->False:=fun hp ht=>by
    have h1:=hI.out ht y (by rw[hje,List.take_length];exact hym);exact h1.2 (hxy.out hp h1.1)
   clear hI hxy hym;cases p
   ·repeat refine kA ?_
    all_goals first|exact Qg (es.length -(k+1)) (by omega) ⟨k+1,by omega,rfl,by simp[keepE,go_sem]⟩
   ·obtain rfl:tw=true:=by cases tw with|true=>rfl|false=>exact(hend rfl rfl).elim
    repeat' first|refine kA ?_|refine kV ?_ ?_<;>intro q|fail
    all_goals first|exact Qg (es.length -(k+1)) (by omega) ⟨k+1,by omega,rfl,by simp[keepE,go_sem]⟩
  have hj2:j<es.length:=by simp at q4;omega
  obtain⟨z,hz⟩: ∃z,es[j]? =some z:=⟨_,A0 hj2⟩;have hzm:=A1 hz;have hr:=Qs (f:=fun s=>[dS s]) hz;have htk:es.take (j+1)=es.take j++[z]:=by rw[List.take_add_one,hz];rfl
  have c3:=cF.out z (hsh.out z hzm);have c4:=cX.out z (hsh.out z hzm)
  have hI2:Hid (tw=false->(fi z).2=true-> ¬(a≠(fi z).1/\b=(tx z).1)-> ∀z∈es.take (j+1),(fi z).2=true/\ ¬(a≠(fi z).1/\b=(tx z).1)):=Pm.hid fun h1 h2 h3 z hz=>by
   rw[htk] at hz;rcases List.mem_append.1 hz with hz|hz
   ·exact hI.out h1 z hz
   ·rw[A2.1 hz];exact⟨h2,h3⟩
  clear hI htk hzm hz;generalize hfz:fi z=fz at*;generalize htz:tx z=tz at*;obtain⟨c,r⟩:=fz;obtain⟨d,v⟩:=tz;simp only at c3 c4 hI2;clear hfz htz;cases tw;rotate_left
  ·repeat' first|refine kS ?_|refine qD (iy hr) ?_|refine kU ?_|fail
   all_goals first|exact Qg (es.length -(j+1)) (by omega) ⟨j+1,true,by omega,rfl,Pm.hid (fun h=>by cases h),by simp[keepE,go_sem]⟩
  cases r
  ·repeat' first|refine kS ?_|refine qD (iy hr) ?_|refine kU ?_|fail
   all_goals first|exact Qg (es.length -(j+1)) (by omega) ⟨j+1,true,by omega,rfl,Pm.hid (fun h=>by cases h),by simp[keepE,go_sem]⟩
  cases v
  ·repeat' first|refine kS ?_|refine qD (iy hr) ?_|refine kU ?_|fail
   all_goals first|exact Qg (es.length -(j+1)) (by omega) ⟨j+1,true,by omega,rfl,Pm.hid (fun h=>by cases h),by simp[keepE,go_sem]⟩
  have hI3:=Pm.hid (hI2.out rfl rfl);clear hI2
  by_cases hac:a=c
  ·have hI4:=Pm.hid (hI3.out fun h=>h.1 hac)
   clear hI3
   repeat' first|refine kS ?_|refine qD (iy hr) ?_|refine kU ?_|refine kV ?_ ?_<;>intro q|fail
   all_goals first|exfalso;simp at*;done|exfalso;simp at*;contradiction|exact Qg (es.length -(j+1)) (by omega) ⟨j+1,false,by omega,rfl,Pm.hid (fun _=>hI4.out),by simp[keepE,go_sem]⟩
  by_cases hbd:b=d
  ·repeat' first|refine kS ?_|refine qD (iy hr) ?_|refine qS (Qdp (l:=b) (m:=d) rfl rfl) ?_|refine kU ?_|refine kV ?_ ?_<;>intro q|fail
   all_goals first|exfalso;simp at*;done|exfalso;simp at*;contradiction|exact Qg (es.length -(j+1)) (by omega) ⟨j+1,true,by omega,rfl,Pm.hid (fun h=>by cases h),by simp[keepE,go_sem,hbd]⟩
  ·have hI4:=Pm.hid (hI3.out fun h=>hbd h.2)
   clear hI3
   repeat' first|refine kS ?_|refine qD (iy hr) ?_|refine qS (Qdp (l:=b) (m:=d) rfl rfl) ?_|refine kU ?_|refine kV ?_ ?_<;>intro q|fail
   all_goals first|exfalso;simp at*;done|exfalso;simp at*;contradiction|exact Qg (es.length -(j+1)) (by omega) ⟨j+1,false,by omega,rfl,Pm.hid (fun _=>hI4.out),by simp[keepE,go_sem,hbd]⟩
