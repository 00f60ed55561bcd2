/- Part 42 of the proof of use_card: contracts, walks, plain laws; no condition is assumed beyond those that a statement names. -/
import Derived.Test.YtdjkdcokjoiokaaGreatDoorRows
import Derived.JoinedOf
import Derived.SevenTiedAt
set_option linter.all false
namespace Go.Proofs.YtdjkdcokjoiokaaGreatDoor
theorem rowOwn : ownKnob Tryz.prog.godebug = none := by kernel_rfl
theorem QdX : laidOutB Tryz.prog = true := by kernel_rfl
theorem rowMaps : mapsRowed Tryz.prog = true := by kernel_rfl
theorem Qn0 : Tryz.prog.stopsHeard = true := by kernel_rfl
theorem Qn1 : Tryz.prog.mayEnter = true := by kernel_rfl
theorem Qnz : Tryz.prog.liftsFinal = false := by kernel_rfl
theorem Qny : Tryz.prog.looks [] = true := by kernel_rfl
theorem rowMain : Tryz.prog.mainIs = some (true, "9e55266720f0307eba4dad16c2714600fad779fc7b1280a4826d96d4a6371e59".toList) := by kernel_rfl
end Go.Proofs.YtdjkdcokjoiokaaGreatDoor
