/- For the seat: closed facts of its program, once. -/
import Derived.Test.YtkfilbcmllfgdaaGreatDoorCards
import Derived.Test.YtkfilbcmllfgdaaGreatDoorTie
namespace Go.Proofs.YtkfilbcmllfgdaaGreatDoor
open Go
set_option maxRecDepth 100000 in
theorem own : ownKnob Tryz.prog.godebug = none := by kernel_rfl
set_option maxRecDepth 100000 in
theorem pEnter : Tryz.prog.mayEnter = true := by kernel_rfl
set_option maxRecDepth 100000 in
theorem pLifts : Tryz.prog.liftsFinal = Rows.deskNoneRow.lifted := by kernel_rfl
set_option maxRecDepth 100000 in
theorem pMake : Tryz.prog.make = some Rows.deskNoneRow.make := by kernel_rfl
set_option maxRecDepth 100000 in
theorem pMain : Tryz.prog.mainIs = some (true, "8c15300455b81a09a42520d5a975b55d86edb39d343216606dca07edeafcf241".toList) := by kernel_rfl
set_option maxRecDepth 100000 in
theorem pLooks : true = Tryz.prog.looks [] := by kernel_rfl
end Go.Proofs.YtkfilbcmllfgdaaGreatDoor
