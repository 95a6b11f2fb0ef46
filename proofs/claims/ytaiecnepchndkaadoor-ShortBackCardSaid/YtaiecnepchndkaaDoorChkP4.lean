/- 'Check': the walks at some cases of the input. -/
import Derived.Test.YtaiecnepchndkaaDoorChkDef
namespace Go.Proofs.YtaiecnepchndkaaDoor.chk
open Go.Sx
set_option maxRecDepth 100000
theorem its1_p : its 47 1 = true := by kernel_rfl
theorem its6_p : its 47 6 = true := by kernel_rfl
theorem its11_p : its 47 11 = true := by kernel_rfl
theorem its1_r : its 26 1 = true := by kernel_rfl
theorem its6_r : its 26 6 = true := by kernel_rfl
theorem its11_r : its 26 11 = true := by kernel_rfl
end Go.Proofs.YtaiecnepchndkaaDoor.chk
