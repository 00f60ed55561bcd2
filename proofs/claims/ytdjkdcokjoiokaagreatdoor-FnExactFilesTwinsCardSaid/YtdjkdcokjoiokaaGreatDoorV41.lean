/- Part 41 of the proof of twins_card: contracts, walks, plain laws; no condition is assumed beyond those that a statement names. -/
import Derived.Test.YtdjkdcokjoiokaaGreatDoorV40
set_option linter.all false
namespace Go.Proofs.YtdjkdcokjoiokaaGreatDoor
theorem QgT : (Rows.fnExactFilesTwinsRow.inPlace == Tryz.prog.inPlace 6) = true := by kernel_rfl
theorem QeX : (Rows.fnExactFilesTwinsRow.unfollowed == Tryz.prog.unfollowed 6) = true := by kernel_rfl
theorem Qgj : (Rows.fnExactFilesTwinsRow.recurses == Tryz.prog.recurses 6) = true := by kernel_rfl
theorem QjE : (Rows.fnExactFilesTwinsRow.named == Tryz.prog.varsNamed 6) = true := by kernel_rfl
theorem QkE : (Tryz.prog.make == some Rows.fnExactFilesTwinsRow.make) = true := by kernel_rfl
theorem QjF : (Rows.fnExactFilesTwinsRow.lifted == Tryz.prog.liftsFinal) = true := by rw [Qm6]; kernel_rfl
theorem QjG : joinedFacts Tryz.prog 6 Tryz.f6 Rows.fnExactFilesTwinsSpec Rows.fnExactFilesTwinsRow = true := by
 unfold joinedFacts;rw [Qew, rowMaps, QgT, QeX, Qgj, QjE, Qm7, Qm8, QjF, QkE]
 kernel_rfl
theorem QkF : false = Rows.fnExactFilesTwinsRow.goesBy Tryz.prog := by kernel_rfl
theorem QkD : Rows.fnExactFilesTwinsRow.wfByText (OpenSpec.ofChange Rows.fnExactFilesTwinsSpec) = true := by kernel_rfl
theorem twinsFn : Tryz.prog.funcNamed "loop.example/poolfiles/laws.FnExactFilesTwins" = some 6 := by kernel_rfl
theorem QhW : Tryz.prog.wantsStandIn 41 = false := by kernel_rfl
theorem QhV : Tryz.prog.wantsStandIn 45 = false := by kernel_rfl
end Go.Proofs.YtdjkdcokjoiokaaGreatDoor
