/- For the seat: texts joined: ChkP3, ChkP4, ChkP5. -/
import Derived.Test.YtmaaibffgoanpaaGreatDoorJA
/- 'Check': the walks at some cases of the input. -/
namespace Go.Proofs.YtmaaibffgoanpaaGreatDoor.chk
open Go.Sx
set_option maxRecDepth 100000
theorem itB_p : itB 37 = true := by kernel_rfl
set_option maxRecDepth 100000 in
theorem go4_p : goes 37 4 = true := by kernel_rfl
set_option maxRecDepth 100000 in
theorem go10_p : goes 37 10 = true := by kernel_rfl
set_option maxRecDepth 100000 in
theorem go16_p : goes 37 16 = true := by kernel_rfl
set_option maxRecDepth 100000 in
theorem go22_p : goes 37 22 = true := by kernel_rfl
set_option maxRecDepth 100000 in
theorem go28_p : goes 37 28 = true := by kernel_rfl
set_option maxRecDepth 100000 in
theorem go34_p : goes 37 34 = true := by kernel_rfl
set_option maxRecDepth 100000 in
theorem go40_p : goes 37 40 = true := by kernel_rfl
set_option maxRecDepth 100000 in
theorem its1_p : its 37 1 = true := by kernel_rfl
set_option maxRecDepth 100000 in
theorem its7_p : its 37 7 = true := by kernel_rfl
set_option maxRecDepth 100000 in
theorem its13_p : its 37 13 = true := by kernel_rfl
set_option maxRecDepth 100000 in
theorem itC_r : itC 20 = true := by kernel_rfl
set_option maxRecDepth 100000 in
theorem go5_r : goes 20 5 = true := by kernel_rfl
set_option maxRecDepth 100000 in
theorem go11_r : goes 20 11 = true := by kernel_rfl
set_option maxRecDepth 100000 in
theorem go17_r : goes 20 17 = true := by kernel_rfl
set_option maxRecDepth 100000 in
theorem go23_r : goes 20 23 = true := by kernel_rfl
set_option maxRecDepth 100000 in
theorem go29_r : goes 20 29 = true := by kernel_rfl
set_option maxRecDepth 100000 in
theorem go35_r : goes 20 35 = true := by kernel_rfl
set_option maxRecDepth 100000 in
theorem go41_r : goes 20 41 = true := by kernel_rfl
set_option maxRecDepth 100000 in
theorem its2_r : its 20 2 = true := by kernel_rfl
set_option maxRecDepth 100000 in
theorem its8_r : its 20 8 = true := by kernel_rfl
set_option maxRecDepth 100000 in
theorem its14_r : its 20 14 = true := by kernel_rfl
end Go.Proofs.YtmaaibffgoanpaaGreatDoor.chk
/- 'Check': the walks at some cases of the input. -/
namespace Go.Proofs.YtmaaibffgoanpaaGreatDoor.chk
open Go.Sx
set_option maxRecDepth 100000
theorem itC_p : itC 37 = true := by kernel_rfl
set_option maxRecDepth 100000 in
theorem go5_p : goes 37 5 = true := by kernel_rfl
set_option maxRecDepth 100000 in
theorem go11_p : goes 37 11 = true := by kernel_rfl
set_option maxRecDepth 100000 in
theorem go17_p : goes 37 17 = true := by kernel_rfl
set_option maxRecDepth 100000 in
theorem go23_p : goes 37 23 = true := by kernel_rfl
set_option maxRecDepth 100000 in
theorem go29_p : goes 37 29 = true := by kernel_rfl
set_option maxRecDepth 100000 in
theorem go35_p : goes 37 35 = true := by kernel_rfl
set_option maxRecDepth 100000 in
theorem go41_p : goes 37 41 = true := by kernel_rfl
set_option maxRecDepth 100000 in
theorem its2_p : its 37 2 = true := by kernel_rfl
set_option maxRecDepth 100000 in
theorem its8_p : its 37 8 = true := by kernel_rfl
set_option maxRecDepth 100000 in
theorem its14_p : its 37 14 = true := by kernel_rfl
set_option maxRecDepth 100000 in
theorem itD_r : itD 20 = true := by kernel_rfl
set_option maxRecDepth 100000 in
theorem go6_r : goes 20 6 = true := by kernel_rfl
set_option maxRecDepth 100000 in
theorem go12_r : goes 20 12 = true := by kernel_rfl
set_option maxRecDepth 100000 in
theorem go18_r : goes 20 18 = true := by kernel_rfl
set_option maxRecDepth 100000 in
theorem go24_r : goes 20 24 = true := by kernel_rfl
set_option maxRecDepth 100000 in
theorem go30_r : goes 20 30 = true := by kernel_rfl
set_option maxRecDepth 100000 in
theorem go36_r : goes 20 36 = true := by kernel_rfl
set_option maxRecDepth 100000 in
theorem go43_r : goes 20 43 = true := by kernel_rfl
set_option maxRecDepth 100000 in
theorem its3_r : its 20 3 = true := by kernel_rfl
set_option maxRecDepth 100000 in
theorem its9_r : its 20 9 = true := by kernel_rfl
end Go.Proofs.YtmaaibffgoanpaaGreatDoor.chk
/- 'Check': the walks at some cases of the input. -/
namespace Go.Proofs.YtmaaibffgoanpaaGreatDoor.chk
open Go.Sx
set_option maxRecDepth 100000
theorem itD_p : itD 37 = true := by kernel_rfl
set_option maxRecDepth 100000 in
theorem go6_p : goes 37 6 = true := by kernel_rfl
set_option maxRecDepth 100000 in
theorem go12_p : goes 37 12 = true := by kernel_rfl
set_option maxRecDepth 100000 in
theorem go18_p : goes 37 18 = true := by kernel_rfl
set_option maxRecDepth 100000 in
theorem go24_p : goes 37 24 = true := by kernel_rfl
set_option maxRecDepth 100000 in
theorem go30_p : goes 37 30 = true := by kernel_rfl
set_option maxRecDepth 100000 in
theorem go36_p : goes 37 36 = true := by kernel_rfl
set_option maxRecDepth 100000 in
theorem go43_p : goes 37 43 = true := by kernel_rfl
set_option maxRecDepth 100000 in
theorem its3_p : its 37 3 = true := by kernel_rfl
set_option maxRecDepth 100000 in
theorem its9_p : its 37 9 = true := by kernel_rfl
set_option maxRecDepth 100000 in
theorem low_r : low 20 = true := by kernel_rfl
set_option maxRecDepth 100000 in
theorem go1_r : goes 20 1 = true := by kernel_rfl
set_option maxRecDepth 100000 in
theorem go7_r : goes 20 7 = true := by kernel_rfl
set_option maxRecDepth 100000 in
theorem go13_r : goes 20 13 = true := by kernel_rfl
set_option maxRecDepth 100000 in
theorem go19_r : goes 20 19 = true := by kernel_rfl
set_option maxRecDepth 100000 in
theorem go25_r : goes 20 25 = true := by kernel_rfl
set_option maxRecDepth 100000 in
theorem go31_r : goes 20 31 = true := by kernel_rfl
set_option maxRecDepth 100000 in
theorem go37_r : goes 20 37 = true := by kernel_rfl
set_option maxRecDepth 100000 in
theorem go44_r : goes 20 44 = true := by kernel_rfl
set_option maxRecDepth 100000 in
theorem its4_r : its 20 4 = true := by kernel_rfl
set_option maxRecDepth 100000 in
theorem its10_r : its 20 10 = true := by kernel_rfl
end Go.Proofs.YtmaaibffgoanpaaGreatDoor.chk
