/- Of fby_card; no condition. -/
import Derived.Test.YtfmnpmhadmcdkaaGreatDoorRows
import Derived.JoinedOf
import Derived.SevenTiedAt
set_option linter.all false
open Go.Proofs.Tryz renaming prog->A0
namespace Go.Proofs.YtfmnpmhadmcdkaaGreatDoor
noncomputable section
def rowOwn:ownKnob A0.godebug=none:=by kernel_rfl
def Qji:laidOutB A0=true:=by kernel_rfl
def rowMaps:mapsRowed A0=true:=by kernel_rfl
def Qs3:A0.stopsHeard=true:=by kernel_rfl
def Qs4:A0.mayEnter=true:=by kernel_rfl
def Qs2:A0.liftsFinal=false:=by kernel_rfl
def Qs1:A0.looks []=true:=by kernel_rfl
def rowMain:A0.mainIs=some (true, "89478b24b75c62524a8e6da098ca334358bc74bc8ffd6d45d0c80efd4cd48962".toList):=by kernel_rfl
