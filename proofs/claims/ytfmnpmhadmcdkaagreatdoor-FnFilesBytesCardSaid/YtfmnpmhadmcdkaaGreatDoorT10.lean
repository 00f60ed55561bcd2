/- Of fby_card; no condition. -/
import Derived.Test.YtfmnpmhadmcdkaaGreatDoorT03
set_option linter.all false
open Go.Proofs.Tryz renaming prog->A0
namespace Go.Proofs.YtfmnpmhadmcdkaaGreatDoor
noncomputable section
def QvH:(Rows.fnFilesBytesRow.inPlace==A0.inPlace 4)=true:=by kernel_rfl
def Qvb:(Rows.fnFilesBytesRow.unfollowed==A0.unfollowed 4)=true:=by kernel_rfl
def Qvu:(Rows.fnFilesBytesRow.recurses==A0.recurses 4)=true:=by kernel_rfl
def Qwq:(Rows.fnFilesBytesRow.named==A0.varsNamed 4)=true:=by kernel_rfl
def fbyMake:(A0.make==some Rows.fnFilesBytesRow.make)=true:=by kernel_rfl
def Qwr:(Rows.fnFilesBytesRow.lifted==A0.liftsFinal)=true:=by rw[Qs2];kernel_rfl
def Qws:joinedFacts A0 4 Tryz.f4 Rows.fnFilesBytesSpec Rows.fnFilesBytesRow=true:=by
 unfold joinedFacts;rw[Qji,rowMaps,QvH,Qvb,Qvu,Qwq,Qs3,Qs4,Qwr,fbyMake]
 kernel_rfl
def fbyGoes:false=Rows.fnFilesBytesRow.goesBy A0:=by kernel_rfl
def fbyText:Rows.fnFilesBytesRow.wfByText (OpenSpec.ofChange Rows.fnFilesBytesSpec)=true:=by kernel_rfl
def fbyFn:A0.funcNamed "loop.example/poolfiles/laws.FnFilesBytes" =some 4:=by kernel_rfl
def QvZ:A0.wantsStandIn 22=false:=by kernel_rfl
