/- Of ftw_card; no condition. -/
import Derived.Test.YthbonbflkdonkaaGreatDoorP03
set_option linter.all false
open Go.Proofs.Tryz renaming prog->A0
namespace Go.Proofs.YthbonbflkdonkaaGreatDoor
noncomputable section
def Qpy:(Rows.fnFilesTwinsRow.inPlace==A0.inPlace 3)=true:=by kernel_rfl
def Qk4:(Rows.fnFilesTwinsRow.unfollowed==A0.unfollowed 3)=true:=by kernel_rfl
def Qna:(Rows.fnFilesTwinsRow.recurses==A0.recurses 3)=true:=by kernel_rfl
def Qt8:(Rows.fnFilesTwinsRow.named==A0.varsNamed 3)=true:=by kernel_rfl
def ftwMake:(A0.make==some Rows.fnFilesTwinsRow.make)=true:=by kernel_rfl
def Qt9:(Rows.fnFilesTwinsRow.lifted==A0.liftsFinal)=true:=by rw[QsS];kernel_rfl
def QtA:joinedFacts A0 3 Tryz.f3 Rows.fnFilesTwinsSpec Rows.fnFilesTwinsRow=true:=by
 unfold joinedFacts;rw[Qjz,rowMaps,Qpy,Qk4,Qna,Qt8,QsT,QsU,Qt9,ftwMake]
 kernel_rfl
def ftwGoes:false=Rows.fnFilesTwinsRow.goesBy A0:=by kernel_rfl
def ftwText:Rows.fnFilesTwinsRow.wfByText (OpenSpec.ofChange Rows.fnFilesTwinsSpec)=true:=by kernel_rfl
def ftwFn:A0.funcNamed "loop.example/poolfiles/laws.FnFilesTwins" =some 3:=by kernel_rfl
def Qry:A0.wantsStandIn 22=false:=by kernel_rfl
