/- 'Check': the walks at some cases of the input. -/
import Derived.Test.YtaiecnepchndkaaDoorChkDef
namespace Go.Proofs.YtaiecnepchndkaaDoor.chk
open Go.Sx
set_option maxRecDepth 100000
theorem itA_p : itA 47 = true := by kernel_rfl
theorem itD_p : itD 47 = true := by kernel_rfl
theorem go3_p : goes 47 3 = true := by kernel_rfl
theorem go6_p : goes 47 6 = true := by kernel_rfl
theorem go9_p : goes 47 9 = true := by kernel_rfl
theorem go12_p : goes 47 12 = true := by kernel_rfl
theorem go15_p : goes 47 15 = true := by kernel_rfl
theorem go18_p : goes 47 18 = true := by kernel_rfl
theorem go21_p : goes 47 21 = true := by kernel_rfl
theorem go24_p : goes 47 24 = true := by kernel_rfl
theorem go27_p : goes 47 27 = true := by kernel_rfl
theorem go30_p : goes 47 30 = true := by kernel_rfl
theorem go33_p : goes 47 33 = true := by kernel_rfl
theorem go36_p : goes 47 36 = true := by kernel_rfl
theorem go39_p : goes 47 39 = true := by kernel_rfl
theorem go43_p : goes 47 43 = true := by kernel_rfl
theorem low_r : low 26 = true := by kernel_rfl
theorem itB_r : itB 26 = true := by kernel_rfl
theorem go1_r : goes 26 1 = true := by kernel_rfl
theorem go4_r : goes 26 4 = true := by kernel_rfl
theorem go7_r : goes 26 7 = true := by kernel_rfl
theorem go10_r : goes 26 10 = true := by kernel_rfl
theorem go13_r : goes 26 13 = true := by kernel_rfl
theorem go16_r : goes 26 16 = true := by kernel_rfl
theorem go19_r : goes 26 19 = true := by kernel_rfl
theorem go22_r : goes 26 22 = true := by kernel_rfl
theorem go25_r : goes 26 25 = true := by kernel_rfl
theorem go28_r : goes 26 28 = true := by kernel_rfl
theorem go31_r : goes 26 31 = true := by kernel_rfl
theorem go34_r : goes 26 34 = true := by kernel_rfl
theorem go37_r : goes 26 37 = true := by kernel_rfl
theorem go40_r : goes 26 40 = true := by kernel_rfl
theorem go44_r : goes 26 44 = true := by kernel_rfl
theorem its2_p : its 47 2 = true := by kernel_rfl
theorem its7_p : its 47 7 = true := by kernel_rfl
theorem its12_p : its 47 12 = true := by kernel_rfl
theorem its2_r : its 26 2 = true := by kernel_rfl
theorem its7_r : its 26 7 = true := by kernel_rfl
theorem its12_r : its 26 12 = true := by kernel_rfl
end Go.Proofs.YtaiecnepchndkaaDoor.chk
