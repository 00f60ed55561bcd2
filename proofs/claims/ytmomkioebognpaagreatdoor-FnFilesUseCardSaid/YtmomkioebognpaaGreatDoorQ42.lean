/- Of fuse_card; no condition. -/
import Derived.Test.YtmomkioebognpaaGreatDoorQ31
import Derived.Test.YtmomkioebognpaaGreatDoorQ41
set_option linter.all false
set_option maxRecDepth 100000
set_option maxHeartbeats 16000000
namespace Go.Proofs.YtmomkioebognpaaGreatDoor
noncomputable section
open Go.RowKit
namespace Aw
attribute [local irreducible] ASeq ADraw AWP Loc AStep Fg.PlanF Fg.Flts EndR
def exUse(rows:List (List D))(hr:RdOk rows):Pure Tryz.prog 3 [.sl true 1 rows] (dB true):=by
 refine kE ?_
 repeat' first|refine kS ?_|(refine QbX [] (Qtd rows hr) cK (k:=?_);rintro _ _ ⟨s,t,p,hL,hp,rfl,rfl⟩;refine QcC (k:=?_))|refine kU ?_|refine kV ?_ ?_<;>intro q|fail
 all_goals first|exact QbQ (hx:=rfl)|skip
 have c4:=(Ql7 s hL t p (by omega)).arg (l:=[tSt s,dTree t,dS p]);have c3:=(QrV s hL t p (by omega)).arg (l:=[tSt s,dTree t,dS p]);have hall:=use_all s hL t p;generalize Pl.Qay s t p (Pl.Qat s)=res at*;obtain⟨x0,ok⟩:=res;simp only at c3 c4 hall;cases ok
 ·clear hall
  repeat' first|refine kA ?_|refine kV ?_ ?_<;>intro q|fail
  all_goals first|exact QbQ (hx:=rfl)|exfalso;simp at*;done
 ·obtain⟨A,U,hA,hU,h0,h1,k1,k2,k3⟩:=hall rfl
  replace k1:=k1.arg (l:=[tSt s,dTree t])
  replace k2:=k2.arg (l:=[tSt s,dTree t,dS [47]])
  replace k3:=k3.arg (l:=[tSt s,dTree t])
  change Pure _ _ _ (.tup [.sl true 5 (A.map rPtr),dB true]) at k1
  have eR:(A.map rPtr).length=A.length:=by simp
  rw[<-eR] at k3 hA;clear eR;generalize A.map rPtr=R at*
  repeat' first|refine kS ?_|refine qS (Qns (c:=(U:Int)) rfl rfl (by omega) (by omega)) ?_|refine kU ?_|refine kV ?_ ?_<;>intro q|fail
  all_goals first
   |exact QbQ (hx:=rfl)
   |(have e0:decide (x0≥0)=true:=decide_eq_true h0
     refine QbQ (hx:=?_)
     rw[e0])
   |(exfalso;simp at*;done)
   |(exfalso;simp at*;omega)
