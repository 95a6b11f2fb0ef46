/- DeskNone: closed facts of its program, the greater ones alone. -/
import Derived.Test.YtkfilbcmllfgdaaGreatDoorEnter
import Derived.JoinedOf
namespace Go.Proofs.YtkfilbcmllfgdaaGreatDoor.deskNone
open Go
set_option maxRecDepth 100000 in
theorem jInPlace : Tryz.prog.inPlace 3 = Rows.deskNoneRow.inPlace := by kernel_rfl
set_option maxRecDepth 100000 in
theorem jMaps : mapsRowed Tryz.prog = true := by kernel_rfl
end Go.Proofs.YtkfilbcmllfgdaaGreatDoor.deskNone
