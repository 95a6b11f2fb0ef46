/- 'Check': the walks at some cases of the input. -/
import Derived.Test.YtaiecnepchndkaaDoorChkDef
namespace Go.Proofs.YtaiecnepchndkaaDoor.chk
open Go.Sx
set_option maxRecDepth 100000
theorem its2_p : its 47 2 = true := by kernel_rfl
theorem its7_p : its 47 7 = true := by kernel_rfl
theorem its12_p : its 47 12 = true := by kernel_rfl
theorem its2_r : its 26 2 = true := by kernel_rfl
theorem its7_r : its 26 7 = true := by kernel_rfl
theorem its12_r : its 26 12 = true := by kernel_rfl
end Go.Proofs.YtaiecnepchndkaaDoor.chk
