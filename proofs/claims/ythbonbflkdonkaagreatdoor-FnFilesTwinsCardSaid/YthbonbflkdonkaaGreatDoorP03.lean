/- Of ftw_card; no condition. -/
import Derived.Test.YthbonbflkdonkaaGreatDoorRows
import Derived.JoinedOf
import Derived.SevenTiedAt
set_option linter.all false
open Go.Proofs.Tryz renaming prog->A0
namespace Go.Proofs.YthbonbflkdonkaaGreatDoor
noncomputable section
def rowOwn:ownKnob A0.godebug=none:=by kernel_rfl
def Qjz:laidOutB A0=true:=by kernel_rfl
def rowMaps:mapsRowed A0=true:=by kernel_rfl
def QsT:A0.stopsHeard=true:=by kernel_rfl
def QsU:A0.mayEnter=true:=by kernel_rfl
def QsS:A0.liftsFinal=false:=by kernel_rfl
def QsR:A0.looks []=true:=by kernel_rfl
def rowMain:A0.mainIs=some (true, "91e179dc851929eae8983671ac0dfeab7fe358d0aa5ae4b6bf3fd4ff37fce211".toList):=by kernel_rfl
