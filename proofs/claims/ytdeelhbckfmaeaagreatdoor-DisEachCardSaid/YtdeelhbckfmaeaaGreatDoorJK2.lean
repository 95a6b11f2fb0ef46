/- For the seat: texts joined: ChkP4, ChkP5. -/
import Derived.Test.YtdeelhbckfmaeaaGreatDoorJA
/- 'Check': the walks at some cases of the input. -/
namespace Go.Proofs.YtdeelhbckfmaeaaGreatDoor.chk
open Go.Sx
set_option maxRecDepth 100000
theorem itC_p : itC 140 = true := by kernel_rfl
set_option maxRecDepth 100000 in
theorem go5_p : goes 140 5 = true := by kernel_rfl
set_option maxRecDepth 100000 in
theorem go11_p : goes 140 11 = true := by kernel_rfl
set_option maxRecDepth 100000 in
theorem go17_p : goes 140 17 = true := by kernel_rfl
set_option maxRecDepth 100000 in
theorem go23_p : goes 140 23 = true := by kernel_rfl
set_option maxRecDepth 100000 in
theorem go29_p : goes 140 29 = true := by kernel_rfl
set_option maxRecDepth 100000 in
theorem go35_p : goes 140 35 = true := by kernel_rfl
set_option maxRecDepth 100000 in
theorem go41_p : goes 140 41 = true := by kernel_rfl
set_option maxRecDepth 100000 in
theorem its2_p : its 140 2 = true := by kernel_rfl
set_option maxRecDepth 100000 in
theorem its8_p : its 140 8 = true := by kernel_rfl
set_option maxRecDepth 100000 in
theorem its14_p : its 140 14 = true := by kernel_rfl
set_option maxRecDepth 100000 in
theorem itD_r : itD 130 = true := by kernel_rfl
set_option maxRecDepth 100000 in
theorem go6_r : goes 130 6 = true := by kernel_rfl
set_option maxRecDepth 100000 in
theorem go12_r : goes 130 12 = true := by kernel_rfl
set_option maxRecDepth 100000 in
theorem go18_r : goes 130 18 = true := by kernel_rfl
set_option maxRecDepth 100000 in
theorem go24_r : goes 130 24 = true := by kernel_rfl
set_option maxRecDepth 100000 in
theorem go30_r : goes 130 30 = true := by kernel_rfl
set_option maxRecDepth 100000 in
theorem go36_r : goes 130 36 = true := by kernel_rfl
set_option maxRecDepth 100000 in
theorem go43_r : goes 130 43 = true := by kernel_rfl
set_option maxRecDepth 100000 in
theorem its3_r : its 130 3 = true := by kernel_rfl
set_option maxRecDepth 100000 in
theorem its9_r : its 130 9 = true := by kernel_rfl
end Go.Proofs.YtdeelhbckfmaeaaGreatDoor.chk
/- 'Check': the walks at some cases of the input. -/
namespace Go.Proofs.YtdeelhbckfmaeaaGreatDoor.chk
open Go.Sx
set_option maxRecDepth 100000
theorem itD_p : itD 140 = true := by kernel_rfl
set_option maxRecDepth 100000 in
theorem go6_p : goes 140 6 = true := by kernel_rfl
set_option maxRecDepth 100000 in
theorem go12_p : goes 140 12 = true := by kernel_rfl
set_option maxRecDepth 100000 in
theorem go18_p : goes 140 18 = true := by kernel_rfl
set_option maxRecDepth 100000 in
theorem go24_p : goes 140 24 = true := by kernel_rfl
set_option maxRecDepth 100000 in
theorem go30_p : goes 140 30 = true := by kernel_rfl
set_option maxRecDepth 100000 in
theorem go36_p : goes 140 36 = true := by kernel_rfl
set_option maxRecDepth 100000 in
theorem go43_p : goes 140 43 = true := by kernel_rfl
set_option maxRecDepth 100000 in
theorem its3_p : its 140 3 = true := by kernel_rfl
set_option maxRecDepth 100000 in
theorem its9_p : its 140 9 = true := by kernel_rfl
set_option maxRecDepth 100000 in
theorem low_r : low 130 = true := by kernel_rfl
set_option maxRecDepth 100000 in
theorem go1_r : goes 130 1 = true := by kernel_rfl
set_option maxRecDepth 100000 in
theorem go7_r : goes 130 7 = true := by kernel_rfl
set_option maxRecDepth 100000 in
theorem go13_r : goes 130 13 = true := by kernel_rfl
set_option maxRecDepth 100000 in
theorem go19_r : goes 130 19 = true := by kernel_rfl
set_option maxRecDepth 100000 in
theorem go25_r : goes 130 25 = true := by kernel_rfl
set_option maxRecDepth 100000 in
theorem go31_r : goes 130 31 = true := by kernel_rfl
set_option maxRecDepth 100000 in
theorem go37_r : goes 130 37 = true := by kernel_rfl
set_option maxRecDepth 100000 in
theorem go44_r : goes 130 44 = true := by kernel_rfl
set_option maxRecDepth 100000 in
theorem its4_r : its 130 4 = true := by kernel_rfl
set_option maxRecDepth 100000 in
theorem its10_r : its 130 10 = true := by kernel_rfl
end Go.Proofs.YtdeelhbckfmaeaaGreatDoor.chk
