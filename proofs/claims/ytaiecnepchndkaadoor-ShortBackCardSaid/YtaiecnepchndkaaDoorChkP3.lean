/- 'Check': the walks at some cases of the input. -/
import Derived.Test.YtaiecnepchndkaaDoorChkDef
namespace Go.Proofs.YtaiecnepchndkaaDoor.chk
open Go.Sx
set_option maxRecDepth 100000
theorem its0_p : its 47 0 = true := by kernel_rfl
theorem its5_p : its 47 5 = true := by kernel_rfl
theorem its10_p : its 47 10 = true := by kernel_rfl
theorem its0_r : its 26 0 = true := by kernel_rfl
theorem its5_r : its 26 5 = true := by kernel_rfl
theorem its10_r : its 26 10 = true := by kernel_rfl
end Go.Proofs.YtaiecnepchndkaaDoor.chk
