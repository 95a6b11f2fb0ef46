/- 'Check': the walks at some cases of the input. -/
import Derived.Test.YtaiecnepchndkaaDoorChkDef
namespace Go.Proofs.YtaiecnepchndkaaDoor.chk
open Go.Sx
set_option maxRecDepth 100000
theorem its3_p : its 47 3 = true := by kernel_rfl
theorem its8_p : its 47 8 = true := by kernel_rfl
theorem its13_p : its 47 13 = true := by kernel_rfl
theorem its3_r : its 26 3 = true := by kernel_rfl
theorem its8_r : its 26 8 = true := by kernel_rfl
theorem its13_r : its 26 13 = true := by kernel_rfl
end Go.Proofs.YtaiecnepchndkaaDoor.chk
