/- For the seat: texts joined: ChkP0, ChkP1. -/
import Derived.Test.YtmaaibffgoanpaaDoorJA
/- 'Check': the walks at some cases of the input. -/
namespace Go.Proofs.YtmaaibffgoanpaaDoor.chk
open Go.Sx
set_option maxRecDepth 100000
theorem low_p : low 19 = true := by kernel_rfl
theorem go1_p : goes 19 1 = true := by kernel_rfl
theorem go7_p : goes 19 7 = true := by kernel_rfl
theorem go13_p : goes 19 13 = true := by kernel_rfl
theorem go19_p : goes 19 19 = true := by kernel_rfl
theorem go25_p : goes 19 25 = true := by kernel_rfl
theorem go31_p : goes 19 31 = true := by kernel_rfl
theorem go37_p : goes 19 37 = true := by kernel_rfl
theorem go44_p : goes 19 44 = true := by kernel_rfl
theorem its4_p : its 19 4 = true := by kernel_rfl
theorem its10_p : its 19 10 = true := by kernel_rfl
end Go.Proofs.YtmaaibffgoanpaaDoor.chk
/- 'Check': the walks at some cases of the input. -/
namespace Go.Proofs.YtmaaibffgoanpaaDoor.chk
open Go.Sx
set_option maxRecDepth 100000
theorem high_p : high 19 = true := by kernel_rfl
theorem go2_p : goes 19 2 = true := by kernel_rfl
theorem go8_p : goes 19 8 = true := by kernel_rfl
theorem go14_p : goes 19 14 = true := by kernel_rfl
theorem go20_p : goes 19 20 = true := by kernel_rfl
theorem go26_p : goes 19 26 = true := by kernel_rfl
theorem go32_p : goes 19 32 = true := by kernel_rfl
theorem go38_p : goes 19 38 = true := by kernel_rfl
theorem go45_p : goes 19 45 = true := by kernel_rfl
theorem its5_p : its 19 5 = true := by kernel_rfl
theorem its11_p : its 19 11 = true := by kernel_rfl
end Go.Proofs.YtmaaibffgoanpaaDoor.chk
