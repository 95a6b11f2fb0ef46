/- For the seat: closed facts of its program, once. -/
import Derived.Test.YtaiecnepchndkaaDoorLaw
namespace Go.Proofs.YtaiecnepchndkaaDoor
open Go
theorem pEnter : Tryd.prog.mayEnter = true := by kernel_rfl
theorem pLifts : Tryd.prog.liftsFinal = Rows.narrowHalfRow.lifted := by kernel_rfl
theorem pMake : Tryd.prog.make = some Rows.narrowHalfRow.make := by kernel_rfl
theorem pMain : Tryd.prog.mainIs = some (true, "da8a6907bc181bcdfc693d96b7f41634546629ab9b0d19580363a62b8d88c62b".toList) := by kernel_rfl
theorem pLooks : false = Tryd.prog.looks [] := by kernel_rfl
end Go.Proofs.YtaiecnepchndkaaDoor
