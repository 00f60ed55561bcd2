/- Of fuse_card; no condition. -/
import Derived.Test.YtmomkioebognpaaGreatDoorQ03
set_option linter.all false
open Go.Proofs.Tryz renaming prog->A0
namespace Go.Proofs.YtmomkioebognpaaGreatDoor
noncomputable section
def Qm4:(Rows.fnFilesUseRow.inPlace==A0.inPlace 3)=true:=by kernel_rfl
def QiL:(Rows.fnFilesUseRow.unfollowed==A0.unfollowed 3)=true:=by kernel_rfl
def Qll:(Rows.fnFilesUseRow.recurses==A0.recurses 3)=true:=by kernel_rfl
def QqD:(Rows.fnFilesUseRow.named==A0.varsNamed 3)=true:=by kernel_rfl
def QsU:(A0.make==some Rows.fnFilesUseRow.make)=true:=by kernel_rfl
def QqE:(Rows.fnFilesUseRow.lifted==A0.liftsFinal)=true:=by rw[Qsp];kernel_rfl
def QqF:joinedFacts A0 3 Tryz.f3 Rows.fnFilesUseSpec Rows.fnFilesUseRow=true:=by
 unfold joinedFacts;rw[QiO,rowMaps,Qm4,QiL,Qll,QqD,Qsq,Qsr,QqE,QsU]
 kernel_rfl
def QsV:false=Rows.fnFilesUseRow.goesBy A0:=by kernel_rfl
def QsT:Rows.fnFilesUseRow.wfByText (OpenSpec.ofChange Rows.fnFilesUseSpec)=true:=by kernel_rfl
def fuseFn:A0.funcNamed "loop.example/poolfiles/laws.FnFilesUse" =some 3:=by kernel_rfl
def QoS:A0.wantsStandIn 22=false:=by kernel_rfl
