/- 'Check': the walks at some cases of the input. -/
import Derived.Test.YtaiecnepchndkaaDoorChkDef
namespace Go.Proofs.YtaiecnepchndkaaDoor.chk
open Go.Sx
set_option maxRecDepth 100000
theorem high_p : high 47 = true := by kernel_rfl
theorem itC_p : itC 47 = true := by kernel_rfl
theorem go2_p : goes 47 2 = true := by kernel_rfl
theorem go5_p : goes 47 5 = true := by kernel_rfl
theorem go8_p : goes 47 8 = true := by kernel_rfl
theorem go11_p : goes 47 11 = true := by kernel_rfl
theorem go14_p : goes 47 14 = true := by kernel_rfl
theorem go17_p : goes 47 17 = true := by kernel_rfl
theorem go20_p : goes 47 20 = true := by kernel_rfl
theorem go23_p : goes 47 23 = true := by kernel_rfl
theorem go26_p : goes 47 26 = true := by kernel_rfl
theorem go29_p : goes 47 29 = true := by kernel_rfl
theorem go32_p : goes 47 32 = true := by kernel_rfl
theorem go35_p : goes 47 35 = true := by kernel_rfl
theorem go38_p : goes 47 38 = true := by kernel_rfl
theorem go41_p : goes 47 41 = true := by kernel_rfl
theorem go45_p : goes 47 45 = true := by kernel_rfl
theorem itA_r : itA 26 = true := by kernel_rfl
theorem itD_r : itD 26 = true := by kernel_rfl
theorem go3_r : goes 26 3 = true := by kernel_rfl
theorem go6_r : goes 26 6 = true := by kernel_rfl
theorem go9_r : goes 26 9 = true := by kernel_rfl
theorem go12_r : goes 26 12 = true := by kernel_rfl
theorem go15_r : goes 26 15 = true := by kernel_rfl
theorem go18_r : goes 26 18 = true := by kernel_rfl
theorem go21_r : goes 26 21 = true := by kernel_rfl
theorem go24_r : goes 26 24 = true := by kernel_rfl
theorem go27_r : goes 26 27 = true := by kernel_rfl
theorem go30_r : goes 26 30 = true := by kernel_rfl
theorem go33_r : goes 26 33 = true := by kernel_rfl
theorem go36_r : goes 26 36 = true := by kernel_rfl
theorem go39_r : goes 26 39 = true := by kernel_rfl
theorem go43_r : goes 26 43 = true := by kernel_rfl
theorem its1_p : its 47 1 = true := by kernel_rfl
theorem its6_p : its 47 6 = true := by kernel_rfl
theorem its11_p : its 47 11 = true := by kernel_rfl
theorem its1_r : its 26 1 = true := by kernel_rfl
theorem its6_r : its 26 6 = true := by kernel_rfl
theorem its11_r : its 26 11 = true := by kernel_rfl
end Go.Proofs.YtaiecnepchndkaaDoor.chk
