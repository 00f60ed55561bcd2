/- Of fuse_card; no condition. -/
import Derived.Test.YtmomkioebognpaaGreatDoorQ33
set_option linter.all false
set_option maxRecDepth 100000
set_option maxHeartbeats 16000000
open Bool renaming and_eq_true->A0
namespace Go.Proofs.YtmomkioebognpaaGreatDoor
noncomputable section
open Go.RowKit
namespace Aw
abbrev dOpI(k:Int)(path pt:List UInt8)(a:Int)(text:List UInt8):D:= .agg [dI k,dS path,dS pt,dI a,dS text]
structure OpFit(k:Int)(path pt:List UInt8)(a:Int)(text:List UInt8):Prop where
 kind:1<=k/\k<=7
 path:(Pl.Qae path).isSome=true
 two:k=6∨k=7->(Pl.Qae pt).isSome=true
 text:text.length<=24
 at':0<=a/\a<=192
attribute [local irreducible] ASeq ADraw AWP Loc AStep Fg.PlanF Fg.Flts EndR
def eOpOk(k:Int)(path pt:List UInt8)(a:Int)(text:List UInt8)(hp:path.length<=1000)(ht:pt.length<=1000):
 DoesE Tryz.prog 48 [.d (dOpI k path pt a text)] [] [] (fun x H=> ∃b:Bool,(b=true->OpFit k path pt a text)/\x= .d (dB b)/\H=[]):=by
 have c1:=al6In k 1 7;have c2:=aPathOk path (by omega);have c3:=aPathOk pt (by omega);have c4:=al6In a 0 192;have h4:Pl.inR a 0 192=true->0<=a/\a<=192:=by unfold Pl.inR;simp only[A0,decide_eq_true_eq];exact fun h=>h
 have h1:Hid (Pl.inR k 1 7=true->k=1∨k=2∨k=3∨k=4∨k=5∨k=6∨k=7):=Pm.hid (by unfold Pl.inR;simp only[A0,decide_eq_true_eq];omega);generalize Pl.inR a 0 192=ia at*;generalize hik:Pl.inR k 1 7=ik at*;have hpd:=fun h=>OpFit.mk (k:=k) (path:=path) (pt:=pt) (a:=a) (text:=text) h
 generalize (Pl.Qae path).isSome=bp at*;generalize (Pl.Qae pt).isSome=bt at*;cases ik
 ·refine kH fun gvs=>?_
  repeat' first|refine kA ?_|refine kV ?_ ?_<;>intro q|fail
  all_goals first|refine QbU 0 (hx:=?_);exact⟨false,(fun h=>by cases h),rfl,rfl⟩
 rcases h1.out rfl with rfl|rfl|rfl|rfl|rfl|rfl|rfl
 all_goals
  refine kH fun gvs=>?_
  repeat' first|refine kA ?_|refine kV ?_ ?_<;>intro q|fail
  all_goals first|refine QbU 0 (hx:=?_);exact⟨false,(fun h=>by cases h),rfl,rfl⟩|simp only[Bool.not_eq_false',decide_eq_false_iff_not,beq_iff_eq] at*;refine QbU 0 (hx:=?_);exact⟨_,(fun h=>hpd (by omega) (by assumption) (fun _=>by first|assumption|omega) (by omega) (by first|omega|exact h4 h)),rfl,rfl⟩
