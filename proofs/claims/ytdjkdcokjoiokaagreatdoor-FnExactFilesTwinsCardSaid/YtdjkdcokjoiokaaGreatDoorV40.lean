/- Part 40 of the proof of twins_card: contracts, walks, plain laws; no condition is assumed beyond those that a statement names. -/
import Derived.Test.YtdjkdcokjoiokaaGreatDoorRows
import Derived.JoinedOf
import Derived.SevenTiedAt
set_option linter.all false
namespace Go.Proofs.YtdjkdcokjoiokaaGreatDoor
theorem rowOwn : ownKnob Tryz.prog.godebug = none := by kernel_rfl
theorem Qew : laidOutB Tryz.prog = true := by kernel_rfl
theorem rowMaps : mapsRowed Tryz.prog = true := by kernel_rfl
theorem Qm7 : Tryz.prog.stopsHeard = true := by kernel_rfl
theorem Qm8 : Tryz.prog.mayEnter = true := by kernel_rfl
theorem Qm6 : Tryz.prog.liftsFinal = false := by kernel_rfl
theorem Qm5 : Tryz.prog.looks [] = true := by kernel_rfl
theorem rowMain : Tryz.prog.mainIs = some (true, "9e55266720f0307eba4dad16c2714600fad779fc7b1280a4826d96d4a6371e59".toList) := by kernel_rfl
end Go.Proofs.YtdjkdcokjoiokaaGreatDoor
