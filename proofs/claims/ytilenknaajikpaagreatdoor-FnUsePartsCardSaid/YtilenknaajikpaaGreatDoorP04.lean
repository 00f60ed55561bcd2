/- Of parts_card; no condition. -/
import Derived.Test.YtilenknaajikpaaGreatDoorP03
set_option linter.all false
open Go.Proofs.Tryz renaming prog->A0
namespace Go.Proofs.YtilenknaajikpaaGreatDoor
noncomputable section
def QlR:(Rows.fnUsePartsRow.inPlace==A0.inPlace 3)=true:=by kernel_rfl
def QiR:(Rows.fnUsePartsRow.unfollowed==A0.unfollowed 3)=true:=by kernel_rfl
def QkG:(Rows.fnUsePartsRow.recurses==A0.recurses 3)=true:=by kernel_rfl
def Qp8:(Rows.fnUsePartsRow.named==A0.varsNamed 3)=true:=by kernel_rfl
def Qr0:(A0.make==some Rows.fnUsePartsRow.make)=true:=by kernel_rfl
def Qp9:(Rows.fnUsePartsRow.lifted==A0.liftsFinal)=true:=by rw[Qt4];kernel_rfl
def QpA:joinedFacts A0 3 Tryz.f3 Rows.fnUsePartsSpec Rows.fnUsePartsRow=true:=by
 unfold joinedFacts;rw[QjP,rowMaps,QlR,QiR,QkG,Qp8,Qt5,Qt6,Qp9,Qr0]
 kernel_rfl
def Qr1:false=Rows.fnUsePartsRow.goesBy A0:=by kernel_rfl
def Qrz:Rows.fnUsePartsRow.wfByText (OpenSpec.ofChange Rows.fnUsePartsSpec)=true:=by kernel_rfl
def partsFn:A0.funcNamed "loop.example/poolfiles/laws.FnUseParts" =some 3:=by kernel_rfl
def Qne:A0.wantsStandIn 22=false:=by kernel_rfl
