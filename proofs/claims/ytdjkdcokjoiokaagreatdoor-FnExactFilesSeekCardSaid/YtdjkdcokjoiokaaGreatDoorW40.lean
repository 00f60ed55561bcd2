/- Part 40 of seek_card: contracts, walks, laws; no condition beyond the statement's. -/
import Derived.Test.YtdjkdcokjoiokaaGreatDoorRows
import Derived.JoinedOf
import Derived.SevenTiedAt
set_option linter.all false
namespace Go.Proofs.YtdjkdcokjoiokaaGreatDoor
theorem rowOwn : ownKnob Tryz.prog.godebug = none := by kernel_rfl
theorem Qd7 : laidOutB Tryz.prog = true := by kernel_rfl
theorem rowMaps : mapsRowed Tryz.prog = true := by kernel_rfl
theorem Qm9 : Tryz.prog.stopsHeard = true := by kernel_rfl
theorem QmA : Tryz.prog.mayEnter = true := by kernel_rfl
theorem Qm8 : Tryz.prog.liftsFinal = false := by kernel_rfl
theorem Qm7 : Tryz.prog.looks [] = true := by kernel_rfl
theorem rowMain : Tryz.prog.mainIs = some (true, "9e55266720f0307eba4dad16c2714600fad779fc7b1280a4826d96d4a6371e59".toList) := by kernel_rfl
end Go.Proofs.YtdjkdcokjoiokaaGreatDoor
