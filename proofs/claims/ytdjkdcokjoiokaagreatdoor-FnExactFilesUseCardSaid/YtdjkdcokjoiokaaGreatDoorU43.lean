/- Part 43 of the proof of use_card: contracts, walks, plain laws; no condition is assumed beyond those that a statement names. -/
import Derived.Test.YtdjkdcokjoiokaaGreatDoorU42
set_option linter.all false
namespace Go.Proofs.YtdjkdcokjoiokaaGreatDoor
theorem Qkr : (Rows.fnExactFilesUseRow.inPlace == Tryz.prog.inPlace 5) = true := by kernel_rfl
theorem QgL : (Rows.fnExactFilesUseRow.unfollowed == Tryz.prog.unfollowed 5) = true := by kernel_rfl
theorem QiE : (Rows.fnExactFilesUseRow.recurses == Tryz.prog.recurses 5) = true := by kernel_rfl
theorem Qno : (Rows.fnExactFilesUseRow.named == Tryz.prog.varsNamed 5) = true := by kernel_rfl
theorem useMake : (Tryz.prog.make == some Rows.fnExactFilesUseRow.make) = true := by kernel_rfl
theorem Qnp : (Rows.fnExactFilesUseRow.lifted == Tryz.prog.liftsFinal) = true := by rw [Qnz]; kernel_rfl
theorem Qnq : joinedFacts Tryz.prog 5 Tryz.f5 Rows.fnExactFilesUseSpec Rows.fnExactFilesUseRow = true := by
 unfold joinedFacts;rw [QdX, rowMaps, Qkr, QgL, QiE, Qno, Qn0, Qn1, Qnp, useMake]
 kernel_rfl
theorem useGoes : false = Rows.fnExactFilesUseRow.goesBy Tryz.prog := by kernel_rfl
theorem useText : Rows.fnExactFilesUseRow.wfByText (OpenSpec.ofChange Rows.fnExactFilesUseSpec) = true := by kernel_rfl
theorem useFn : Tryz.prog.funcNamed "loop.example/poolfiles/laws.FnExactFilesUse" = some 5 := by kernel_rfl
theorem Ql6 : Tryz.prog.wantsStandIn 41 = false := by kernel_rfl
theorem Ql5 : Tryz.prog.wantsStandIn 45 = false := by kernel_rfl
theorem Ql4 : Tryz.prog.wantsStandIn 9 = false := by kernel_rfl
end Go.Proofs.YtdjkdcokjoiokaaGreatDoor
