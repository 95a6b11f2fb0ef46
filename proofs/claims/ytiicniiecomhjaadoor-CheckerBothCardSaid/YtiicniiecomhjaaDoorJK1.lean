/- For the seat: texts joined: ChkP2, ChkP3. -/
import Derived.Test.YtiicniiecomhjaaDoorJA
/- 'Check': the walks at some cases of the input. -/
namespace Go.Proofs.YtiicniiecomhjaaDoor.chk
open Go.Sx
set_option maxRecDepth 100000
theorem itA_p : itA 29 = true := by kernel_rfl
theorem go3_p : goes 29 3 = true := by kernel_rfl
theorem go9_p : goes 29 9 = true := by kernel_rfl
theorem go15_p : goes 29 15 = true := by kernel_rfl
theorem go21_p : goes 29 21 = true := by kernel_rfl
theorem go27_p : goes 29 27 = true := by kernel_rfl
theorem go33_p : goes 29 33 = true := by kernel_rfl
theorem go39_p : goes 29 39 = true := by kernel_rfl
theorem its0_p : its 29 0 = true := by kernel_rfl
theorem its6_p : its 29 6 = true := by kernel_rfl
theorem its12_p : its 29 12 = true := by kernel_rfl
end Go.Proofs.YtiicniiecomhjaaDoor.chk
/- 'Check': the walks at some cases of the input. -/
namespace Go.Proofs.YtiicniiecomhjaaDoor.chk
open Go.Sx
set_option maxRecDepth 100000
theorem itB_p : itB 29 = true := by kernel_rfl
theorem go4_p : goes 29 4 = true := by kernel_rfl
theorem go10_p : goes 29 10 = true := by kernel_rfl
theorem go16_p : goes 29 16 = true := by kernel_rfl
theorem go22_p : goes 29 22 = true := by kernel_rfl
theorem go28_p : goes 29 28 = true := by kernel_rfl
theorem go34_p : goes 29 34 = true := by kernel_rfl
theorem go40_p : goes 29 40 = true := by kernel_rfl
theorem its1_p : its 29 1 = true := by kernel_rfl
theorem its7_p : its 29 7 = true := by kernel_rfl
theorem its13_p : its 29 13 = true := by kernel_rfl
end Go.Proofs.YtiicniiecomhjaaDoor.chk
