/- 'Check': the walks at some cases of the input. -/
import Derived.Test.YtaiecnepchndkaaDoorChkDef
namespace Go.Proofs.YtaiecnepchndkaaDoor.chk
open Go.Sx
set_option maxRecDepth 100000
theorem low_p : low 47 = true := by kernel_rfl
theorem itB_p : itB 47 = true := by kernel_rfl
theorem go1_p : goes 47 1 = true := by kernel_rfl
theorem go4_p : goes 47 4 = true := by kernel_rfl
theorem go7_p : goes 47 7 = true := by kernel_rfl
theorem go10_p : goes 47 10 = true := by kernel_rfl
theorem go13_p : goes 47 13 = true := by kernel_rfl
theorem go16_p : goes 47 16 = true := by kernel_rfl
theorem go19_p : goes 47 19 = true := by kernel_rfl
theorem go22_p : goes 47 22 = true := by kernel_rfl
theorem go25_p : goes 47 25 = true := by kernel_rfl
theorem go28_p : goes 47 28 = true := by kernel_rfl
theorem go31_p : goes 47 31 = true := by kernel_rfl
theorem go34_p : goes 47 34 = true := by kernel_rfl
theorem go37_p : goes 47 37 = true := by kernel_rfl
theorem go40_p : goes 47 40 = true := by kernel_rfl
theorem go44_p : goes 47 44 = true := by kernel_rfl
theorem high_r : high 26 = true := by kernel_rfl
theorem itC_r : itC 26 = true := by kernel_rfl
theorem go2_r : goes 26 2 = true := by kernel_rfl
theorem go5_r : goes 26 5 = true := by kernel_rfl
theorem go8_r : goes 26 8 = true := by kernel_rfl
theorem go11_r : goes 26 11 = true := by kernel_rfl
theorem go14_r : goes 26 14 = true := by kernel_rfl
theorem go17_r : goes 26 17 = true := by kernel_rfl
theorem go20_r : goes 26 20 = true := by kernel_rfl
theorem go23_r : goes 26 23 = true := by kernel_rfl
theorem go26_r : goes 26 26 = true := by kernel_rfl
theorem go29_r : goes 26 29 = true := by kernel_rfl
theorem go32_r : goes 26 32 = true := by kernel_rfl
theorem go35_r : goes 26 35 = true := by kernel_rfl
theorem go38_r : goes 26 38 = true := by kernel_rfl
theorem go41_r : goes 26 41 = true := by kernel_rfl
theorem go45_r : goes 26 45 = true := by kernel_rfl
theorem its0_p : its 47 0 = true := by kernel_rfl
theorem its5_p : its 47 5 = true := by kernel_rfl
theorem its10_p : its 47 10 = true := by kernel_rfl
theorem its0_r : its 26 0 = true := by kernel_rfl
theorem its5_r : its 26 5 = true := by kernel_rfl
theorem its10_r : its 26 10 = true := by kernel_rfl
end Go.Proofs.YtaiecnepchndkaaDoor.chk
