/- For the seat: closed facts of its program, once. -/
import Derived.Test.YtmaaibffgoanpaaGreatDoorCards
import Derived.Test.YtmaaibffgoanpaaGreatDoorTie
namespace Go.Proofs.YtmaaibffgoanpaaGreatDoor
open Go
set_option maxRecDepth 100000 in
theorem pEnter : Tryz.prog.mayEnter = true := by kernel_rfl
set_option maxRecDepth 100000 in
theorem pLifts : Tryz.prog.liftsFinal = Rows.decodeBackRow.lifted := by kernel_rfl
set_option maxRecDepth 100000 in
theorem pMake : Tryz.prog.make = some Rows.decodeBackRow.make := by kernel_rfl
set_option maxRecDepth 100000 in
theorem pMain : Tryz.prog.mainIs = some (true, "a3d59248f7a34bcff598d3d4d9902b7c38a3e90fd25ba206e730cb404c0124c1".toList) := by kernel_rfl
set_option maxRecDepth 100000 in
theorem pLooks : false = Tryz.prog.looks [] := by kernel_rfl
end Go.Proofs.YtmaaibffgoanpaaGreatDoor
