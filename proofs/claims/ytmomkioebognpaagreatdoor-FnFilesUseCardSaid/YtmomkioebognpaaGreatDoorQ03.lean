/- Of fuse_card; no condition. -/
import Derived.Test.YtmomkioebognpaaGreatDoorRows
import Derived.JoinedOf
import Derived.SevenTiedAt
set_option linter.all false
open Go.Proofs.Tryz renaming prog->A0
namespace Go.Proofs.YtmomkioebognpaaGreatDoor
noncomputable section
def rowOwn:ownKnob A0.godebug=none:=by kernel_rfl
def QiO:laidOutB A0=true:=by kernel_rfl
def rowMaps:mapsRowed A0=true:=by kernel_rfl
def Qsq:A0.stopsHeard=true:=by kernel_rfl
def Qsr:A0.mayEnter=true:=by kernel_rfl
def Qsp:A0.liftsFinal=false:=by kernel_rfl
def Qso:A0.looks []=true:=by kernel_rfl
def rowMain:A0.mainIs=some (true, "61fbed501d02898b286c66dde975f8a630872a59f364e0c7b8513d1de425a27c".toList):=by kernel_rfl
