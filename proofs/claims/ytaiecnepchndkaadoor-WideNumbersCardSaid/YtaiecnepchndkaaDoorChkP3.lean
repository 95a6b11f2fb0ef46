/- 'Check': the walks at some cases of the input. -/
import Derived.Test.YtaiecnepchndkaaDoorChkDef
namespace Go.Proofs.YtaiecnepchndkaaDoor.chk
open Go.Sx
set_option maxRecDepth 100000
theorem its3_p : its 47 3 = true := by kernel_rfl
theorem its8_p : its 47 8 = true := by kernel_rfl
theorem its13_p : its 47 13 = true := by kernel_rfl
theorem its3_r : its 26 3 = true := by kernel_rfl
theorem its8_r : its 26 8 = true := by kernel_rfl
theorem its13_r : its 26 13 = true := by kernel_rfl
theorem its4_p : its 47 4 = true := by kernel_rfl
theorem its9_p : its 47 9 = true := by kernel_rfl
theorem its14_p : its 47 14 = true := by kernel_rfl
theorem its4_r : its 26 4 = true := by kernel_rfl
theorem its9_r : its 26 9 = true := by kernel_rfl
theorem its14_r : its 26 14 = true := by kernel_rfl
end Go.Proofs.YtaiecnepchndkaaDoor.chk
