/- DeskNone: closed facts of its program, the greater ones alone. -/
import Derived.Test.YtkfilbcmllfgdaaGreatDoorEnter
import Derived.JoinedOf
namespace Go.Proofs.YtkfilbcmllfgdaaGreatDoor.deskNone
open Go
set_option maxRecDepth 100000 in
theorem jNamed : Tryz.prog.varsNamed 3 = Rows.deskNoneRow.named := by kernel_rfl
set_option maxRecDepth 100000 in
theorem jKeys : Tryz.prog.plainKeys = false := by kernel_rfl
end Go.Proofs.YtkfilbcmllfgdaaGreatDoor.deskNone
