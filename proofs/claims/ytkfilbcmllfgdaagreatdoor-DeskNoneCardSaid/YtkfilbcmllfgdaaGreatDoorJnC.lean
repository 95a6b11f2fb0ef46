/- DeskNone: closed facts of its program, the greater ones alone. -/
import Derived.Test.YtkfilbcmllfgdaaGreatDoorEnter
import Derived.JoinedOf
namespace Go.Proofs.YtkfilbcmllfgdaaGreatDoor.deskNone
open Go
set_option maxRecDepth 100000 in
theorem jRec : Tryz.prog.recurses 3 = true := by kernel_rfl
set_option maxRecDepth 100000 in
theorem jHeard : Tryz.prog.stopsHeard = true := by kernel_rfl
end Go.Proofs.YtkfilbcmllfgdaaGreatDoor.deskNone
