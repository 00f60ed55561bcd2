/- Part 41 of seek_card: contracts, walks, laws; no condition beyond the statement's. -/
import Derived.Test.YtdjkdcokjoiokaaGreatDoorW40
set_option linter.all false
namespace Go.Proofs.YtdjkdcokjoiokaaGreatDoor
theorem QhY : (Rows.fnExactFilesSeekRow.inPlace == Tryz.prog.inPlace 7) = true := by kernel_rfl
theorem QfA : (Rows.fnExactFilesSeekRow.unfollowed == Tryz.prog.unfollowed 7) = true := by kernel_rfl
theorem QgX : (Rows.fnExactFilesSeekRow.recurses == Tryz.prog.recurses 7) = true := by kernel_rfl
theorem QkL : (Rows.fnExactFilesSeekRow.named == Tryz.prog.varsNamed 7) = true := by kernel_rfl
theorem Qm5 : (Tryz.prog.make == some Rows.fnExactFilesSeekRow.make) = true := by kernel_rfl
theorem QkM : (Rows.fnExactFilesSeekRow.lifted == Tryz.prog.liftsFinal) = true := by rw [Qm8]; kernel_rfl
theorem QkN : joinedFacts Tryz.prog 7 Tryz.f7 Rows.fnExactFilesSeekSpec Rows.fnExactFilesSeekRow = true := by
 unfold joinedFacts;rw [Qd7, rowMaps, QhY, QfA, QgX, QkL, Qm9, QmA, QkM, Qm5]
 kernel_rfl
theorem Qm6 : false = Rows.fnExactFilesSeekRow.goesBy Tryz.prog := by kernel_rfl
theorem Qm4 : Rows.fnExactFilesSeekRow.wfByText (OpenSpec.ofChange Rows.fnExactFilesSeekSpec) = true := by kernel_rfl
theorem seekFn : Tryz.prog.funcNamed "loop.example/poolfiles/laws.FnExactFilesSeek" = some 7 := by kernel_rfl
theorem QjJ : Tryz.prog.wantsStandIn 41 = false := by kernel_rfl
theorem QjI : Tryz.prog.wantsStandIn 45 = false := by kernel_rfl
theorem QjH : Tryz.prog.wantsStandIn 9 = false := by kernel_rfl
end Go.Proofs.YtdjkdcokjoiokaaGreatDoor
