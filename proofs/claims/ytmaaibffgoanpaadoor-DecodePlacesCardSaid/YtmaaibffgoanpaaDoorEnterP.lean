/- For the seat: closed facts of its program, once. -/
import Derived.Test.YtmaaibffgoanpaaDoorCards
import Derived.Test.YtmaaibffgoanpaaDoorTie
namespace Go.Proofs.YtmaaibffgoanpaaDoor
open Go
theorem pEnter : Tryd.prog.mayEnter = true := by kernel_rfl
theorem pLifts : Tryd.prog.liftsFinal = Rows.decodePlacesRow.lifted := by kernel_rfl
theorem pMake : Tryd.prog.make = some Rows.decodePlacesRow.make := by kernel_rfl
theorem pMain : Tryd.prog.mainIs = some (true, "84ecd487e64ec406615d2d8c2804c2dd18a951b1296c9cb3ee7d008cb4bdb71e".toList) := by kernel_rfl
theorem pLooks : false = Tryd.prog.looks [] := by kernel_rfl
end Go.Proofs.YtmaaibffgoanpaaDoor
