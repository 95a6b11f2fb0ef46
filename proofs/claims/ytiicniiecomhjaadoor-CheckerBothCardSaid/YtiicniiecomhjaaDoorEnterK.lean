/- For the seat: closed facts of its program, once. -/
import Derived.Test.YtiicniiecomhjaaDoorCards
import Derived.Test.YtiicniiecomhjaaDoorTie
namespace Go.Proofs.YtiicniiecomhjaaDoor
open Go
theorem pEnter : Tryd.prog.mayEnter = true := by kernel_rfl
theorem pLifts : Tryd.prog.liftsFinal = Rows.checkerBothRow.lifted := by kernel_rfl
theorem pMake : Tryd.prog.make = some Rows.checkerBothRow.make := by kernel_rfl
theorem pMain : Tryd.prog.mainIs = some (true, "bf91e65f202eb7fcb9bb264509ae62ff30529ad9533885712aecc33d5072be55".toList) := by kernel_rfl
theorem pLooks : false = Tryd.prog.looks [] := by kernel_rfl
end Go.Proofs.YtiicniiecomhjaaDoor
