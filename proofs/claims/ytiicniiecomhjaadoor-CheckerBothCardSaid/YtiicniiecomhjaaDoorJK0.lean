/- For the seat: texts joined: ChkP0, ChkP1. -/
import Derived.Test.YtiicniiecomhjaaDoorJA
/- 'Check': the walks at some cases of the input. -/
namespace Go.Proofs.YtiicniiecomhjaaDoor.chk
open Go.Sx
set_option maxRecDepth 100000
theorem low_p : low 29 = true := by kernel_rfl
theorem go1_p : goes 29 1 = true := by kernel_rfl
theorem go7_p : goes 29 7 = true := by kernel_rfl
theorem go13_p : goes 29 13 = true := by kernel_rfl
theorem go19_p : goes 29 19 = true := by kernel_rfl
theorem go25_p : goes 29 25 = true := by kernel_rfl
theorem go31_p : goes 29 31 = true := by kernel_rfl
theorem go37_p : goes 29 37 = true := by kernel_rfl
theorem go44_p : goes 29 44 = true := by kernel_rfl
theorem its4_p : its 29 4 = true := by kernel_rfl
theorem its10_p : its 29 10 = true := by kernel_rfl
end Go.Proofs.YtiicniiecomhjaaDoor.chk
/- 'Check': the walks at some cases of the input. -/
namespace Go.Proofs.YtiicniiecomhjaaDoor.chk
open Go.Sx
set_option maxRecDepth 100000
theorem high_p : high 29 = true := by kernel_rfl
theorem go2_p : goes 29 2 = true := by kernel_rfl
theorem go8_p : goes 29 8 = true := by kernel_rfl
theorem go14_p : goes 29 14 = true := by kernel_rfl
theorem go20_p : goes 29 20 = true := by kernel_rfl
theorem go26_p : goes 29 26 = true := by kernel_rfl
theorem go32_p : goes 29 32 = true := by kernel_rfl
theorem go38_p : goes 29 38 = true := by kernel_rfl
theorem go45_p : goes 29 45 = true := by kernel_rfl
theorem its5_p : its 29 5 = true := by kernel_rfl
theorem its11_p : its 29 11 = true := by kernel_rfl
end Go.Proofs.YtiicniiecomhjaaDoor.chk
