/- Of fsk_card; no condition. -/
import Derived.Test.YtfmnpmhadmcdkaaGreatDoorS03
set_option linter.all false
open Go.Proofs.Tryz renaming prog->A0
namespace Go.Proofs.YtfmnpmhadmcdkaaGreatDoor
noncomputable section
def QoT:(Rows.fnFilesSeekRow.inPlace==A0.inPlace 3)=true:=by kernel_rfl
def Qkq:(Rows.fnFilesSeekRow.unfollowed==A0.unfollowed 3)=true:=by kernel_rfl
def QmG:(Rows.fnFilesSeekRow.recurses==A0.recurses 3)=true:=by kernel_rfl
def Qth:(Rows.fnFilesSeekRow.named==A0.varsNamed 3)=true:=by kernel_rfl
def fskMake:(A0.make==some Rows.fnFilesSeekRow.make)=true:=by kernel_rfl
def Qti:(Rows.fnFilesSeekRow.lifted==A0.liftsFinal)=true:=by rw[Qs2];kernel_rfl
def Qtj:joinedFacts A0 3 Tryz.f3 Rows.fnFilesSeekSpec Rows.fnFilesSeekRow=true:=by
 unfold joinedFacts;rw[Qji,rowMaps,QoT,Qkq,QmG,Qth,Qs3,Qs4,Qti,fskMake]
 kernel_rfl
def fskGoes:false=Rows.fnFilesSeekRow.goesBy A0:=by kernel_rfl
def fskText:Rows.fnFilesSeekRow.wfByText (OpenSpec.ofChange Rows.fnFilesSeekSpec)=true:=by kernel_rfl
def fskFn:A0.funcNamed "loop.example/poolfiles/laws.FnFilesSeek" =some 3:=by kernel_rfl
def QqR:A0.wantsStandIn 22=false:=by kernel_rfl
