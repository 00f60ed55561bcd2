/- Part 47 of the proof of bytes_card: contracts, walks, plain laws; no condition is assumed beyond those that a statement names. -/
import Derived.Test.YtdjkdcokjoiokaaGreatDoorQ46
set_option linter.all false
namespace Go.Proofs.YtdjkdcokjoiokaaGreatDoor
theorem Qig : (Rows.fnExactFilesBytesRow.inPlace == Tryz.prog.inPlace 4) = true := by kernel_rfl
theorem QfM : (Rows.fnExactFilesBytesRow.unfollowed == Tryz.prog.unfollowed 4) = true := by kernel_rfl
theorem Qhd : (Rows.fnExactFilesBytesRow.recurses == Tryz.prog.recurses 4) = true := by kernel_rfl
theorem QkL : (Rows.fnExactFilesBytesRow.named == Tryz.prog.varsNamed 4) = true := by kernel_rfl
theorem QmC : (Tryz.prog.make == some Rows.fnExactFilesBytesRow.make) = true := by kernel_rfl
theorem QkM : (Rows.fnExactFilesBytesRow.lifted == Tryz.prog.liftsFinal) = true := by rw [Qnf]; kernel_rfl
theorem QkN : joinedFacts Tryz.prog 4 Tryz.f4 Rows.fnExactFilesBytesSpec Rows.fnExactFilesBytesRow = true := by
 unfold joinedFacts
 rw [QdN, rowMaps, Qig, QfM, Qhd, QkL, Qng, Qnh, QkM, QmC]
 kernel_rfl
theorem QmD : false = Rows.fnExactFilesBytesRow.goesBy Tryz.prog := by kernel_rfl
theorem QmB : Rows.fnExactFilesBytesRow.wfByText (OpenSpec.ofChange Rows.fnExactFilesBytesSpec) = true := by kernel_rfl
theorem bytesFn : Tryz.prog.funcNamed "loop.example/poolfiles/laws.FnExactFilesBytes" = some 4 := by kernel_rfl
theorem Qjg : Tryz.prog.wantsStandIn 41 = false := by kernel_rfl
theorem Qjf : Tryz.prog.wantsStandIn 45 = false := by kernel_rfl
theorem Qje : Tryz.prog.wantsStandIn 9 = false := by kernel_rfl
end Go.Proofs.YtdjkdcokjoiokaaGreatDoor
