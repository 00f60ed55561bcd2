/- Of parts_card; no condition. -/
import Derived.Test.YtilenknaajikpaaGreatDoorRows
import Derived.JoinedOf
import Derived.SevenTiedAt
set_option linter.all false
open Go.Proofs.Tryz renaming prog->A0
namespace Go.Proofs.YtilenknaajikpaaGreatDoor
noncomputable section
def rowOwn:ownKnob A0.godebug=none:=by kernel_rfl
def QjP:laidOutB A0=true:=by kernel_rfl
def rowMaps:mapsRowed A0=true:=by kernel_rfl
def Qt5:A0.stopsHeard=true:=by kernel_rfl
def Qt6:A0.mayEnter=true:=by kernel_rfl
def Qt4:A0.liftsFinal=false:=by kernel_rfl
def Qt3:A0.looks []=true:=by kernel_rfl
def rowMain:A0.mainIs=some (true, "540991eb48d7b231a78f7db9d4b295004e58df75891dbe8c032444849b7cc72c".toList):=by kernel_rfl
