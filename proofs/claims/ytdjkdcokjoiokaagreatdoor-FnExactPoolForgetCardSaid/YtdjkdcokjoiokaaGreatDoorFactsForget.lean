/- Closed facts on the whole program, each by the kernel, each for itself: together they would want more memory than one theorem may take. -/
import Derived.Test.YtdjkdcokjoiokaaGreatDoorRows
import Derived.JoinedOf
import Derived.SevenTiedAt
namespace Go.Proofs.YtdjkdcokjoiokaaGreatDoor
theorem rowOwn : ownKnob Tryz.prog.godebug = none := by kernel_rfl
theorem rowLaidOut : laidOutB Tryz.prog = true := by kernel_rfl
theorem rowMaps : mapsRowed Tryz.prog = true := by kernel_rfl
theorem rowHeard : Tryz.prog.stopsHeard = true := by kernel_rfl
theorem rowEnter : Tryz.prog.mayEnter = true := by kernel_rfl
theorem rowLifts : Tryz.prog.liftsFinal = false := by kernel_rfl
theorem rowLooks : Tryz.prog.looks [] = true := by kernel_rfl
theorem rowMain : Tryz.prog.mainIs = some (true, "9e55266720f0307eba4dad16c2714600fad779fc7b1280a4826d96d4a6371e59".toList) := by kernel_rfl
end Go.Proofs.YtdjkdcokjoiokaaGreatDoor

/- Closed facts on what the law of this row reaches. -/
namespace Go.Proofs.YtdjkdcokjoiokaaGreatDoor
theorem forgetInPlace : (Rows.fnExactPoolForgetRow.inPlace == Tryz.prog.inPlace 3) = true := by kernel_rfl
theorem forgetUnfollowed : (Rows.fnExactPoolForgetRow.unfollowed == Tryz.prog.unfollowed 3) = true := by kernel_rfl
theorem forgetRecurses : (Rows.fnExactPoolForgetRow.recurses == Tryz.prog.recurses 3) = true := by kernel_rfl
theorem forgetNamed : (Rows.fnExactPoolForgetRow.named == Tryz.prog.varsNamed 3) = true := by kernel_rfl
theorem forgetMake : (Tryz.prog.make == some Rows.fnExactPoolForgetRow.make) = true := by kernel_rfl
theorem forgetLifts : (Rows.fnExactPoolForgetRow.lifted == Tryz.prog.liftsFinal) = true := by rw [rowLifts]; kernel_rfl
theorem forgetFacts : joinedFacts Tryz.prog 3 Tryz.f3 Rows.fnExactPoolForgetSpec Rows.fnExactPoolForgetRow = true := by
  unfold joinedFacts
  rw [rowLaidOut, rowMaps, forgetInPlace, forgetUnfollowed, forgetRecurses, forgetNamed, rowHeard, rowEnter, forgetLifts, forgetMake]
  kernel_rfl
theorem forgetGoes : false = Rows.fnExactPoolForgetRow.goesBy Tryz.prog := by kernel_rfl
theorem forgetText : Rows.fnExactPoolForgetRow.wfByText (OpenSpec.ofChange Rows.fnExactPoolForgetSpec) = true := by kernel_rfl
theorem forgetFn : Tryz.prog.funcNamed "loop.example/poolfiles/laws.FnExactPoolForget" = some 3 := by kernel_rfl
theorem forgetWants0 : Tryz.prog.wantsStandIn 24 = false := by kernel_rfl
theorem forgetWants1 : Tryz.prog.wantsStandIn 3 = false := by kernel_rfl
end Go.Proofs.YtdjkdcokjoiokaaGreatDoor
