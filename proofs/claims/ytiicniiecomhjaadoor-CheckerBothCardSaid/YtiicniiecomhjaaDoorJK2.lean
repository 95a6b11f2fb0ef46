/- For the seat: texts joined: ChkP4, ChkP5. -/
import Derived.Test.YtiicniiecomhjaaDoorJA
/- 'Check': the walks at some cases of the input. -/
namespace Go.Proofs.YtiicniiecomhjaaDoor.chk
open Go.Sx
set_option maxRecDepth 100000
theorem itC_p : itC 29 = true := by kernel_rfl
theorem go5_p : goes 29 5 = true := by kernel_rfl
theorem go11_p : goes 29 11 = true := by kernel_rfl
theorem go17_p : goes 29 17 = true := by kernel_rfl
theorem go23_p : goes 29 23 = true := by kernel_rfl
theorem go29_p : goes 29 29 = true := by kernel_rfl
theorem go35_p : goes 29 35 = true := by kernel_rfl
theorem go41_p : goes 29 41 = true := by kernel_rfl
theorem its2_p : its 29 2 = true := by kernel_rfl
theorem its8_p : its 29 8 = true := by kernel_rfl
theorem its14_p : its 29 14 = true := by kernel_rfl
end Go.Proofs.YtiicniiecomhjaaDoor.chk
/- 'Check': the walks at some cases of the input. -/
namespace Go.Proofs.YtiicniiecomhjaaDoor.chk
open Go.Sx
set_option maxRecDepth 100000
theorem itD_p : itD 29 = true := by kernel_rfl
theorem go6_p : goes 29 6 = true := by kernel_rfl
theorem go12_p : goes 29 12 = true := by kernel_rfl
theorem go18_p : goes 29 18 = true := by kernel_rfl
theorem go24_p : goes 29 24 = true := by kernel_rfl
theorem go30_p : goes 29 30 = true := by kernel_rfl
theorem go36_p : goes 29 36 = true := by kernel_rfl
theorem go43_p : goes 29 43 = true := by kernel_rfl
theorem its3_p : its 29 3 = true := by kernel_rfl
theorem its9_p : its 29 9 = true := by kernel_rfl
end Go.Proofs.YtiicniiecomhjaaDoor.chk
