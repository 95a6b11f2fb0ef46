/- For the seat: texts joined: ChkP2, ChkP3. -/
import Derived.Test.YtdeelhbckfmaeaaGreatDoorJA
/- 'Check': the walks at some cases of the input. -/
namespace Go.Proofs.YtdeelhbckfmaeaaGreatDoor.chk
open Go.Sx
set_option maxRecDepth 100000
theorem itA_p : itA 140 = true := by kernel_rfl
set_option maxRecDepth 100000 in
theorem go3_p : goes 140 3 = true := by kernel_rfl
set_option maxRecDepth 100000 in
theorem go9_p : goes 140 9 = true := by kernel_rfl
set_option maxRecDepth 100000 in
theorem go15_p : goes 140 15 = true := by kernel_rfl
set_option maxRecDepth 100000 in
theorem go21_p : goes 140 21 = true := by kernel_rfl
set_option maxRecDepth 100000 in
theorem go27_p : goes 140 27 = true := by kernel_rfl
set_option maxRecDepth 100000 in
theorem go33_p : goes 140 33 = true := by kernel_rfl
set_option maxRecDepth 100000 in
theorem go39_p : goes 140 39 = true := by kernel_rfl
set_option maxRecDepth 100000 in
theorem its0_p : its 140 0 = true := by kernel_rfl
set_option maxRecDepth 100000 in
theorem its6_p : its 140 6 = true := by kernel_rfl
set_option maxRecDepth 100000 in
theorem its12_p : its 140 12 = true := by kernel_rfl
set_option maxRecDepth 100000 in
theorem itB_r : itB 130 = true := by kernel_rfl
set_option maxRecDepth 100000 in
theorem go4_r : goes 130 4 = true := by kernel_rfl
set_option maxRecDepth 100000 in
theorem go10_r : goes 130 10 = true := by kernel_rfl
set_option maxRecDepth 100000 in
theorem go16_r : goes 130 16 = true := by kernel_rfl
set_option maxRecDepth 100000 in
theorem go22_r : goes 130 22 = true := by kernel_rfl
set_option maxRecDepth 100000 in
theorem go28_r : goes 130 28 = true := by kernel_rfl
set_option maxRecDepth 100000 in
theorem go34_r : goes 130 34 = true := by kernel_rfl
set_option maxRecDepth 100000 in
theorem go40_r : goes 130 40 = true := by kernel_rfl
set_option maxRecDepth 100000 in
theorem its1_r : its 130 1 = true := by kernel_rfl
set_option maxRecDepth 100000 in
theorem its7_r : its 130 7 = true := by kernel_rfl
set_option maxRecDepth 100000 in
theorem its13_r : its 130 13 = true := by kernel_rfl
end Go.Proofs.YtdeelhbckfmaeaaGreatDoor.chk
/- 'Check': the walks at some cases of the input. -/
namespace Go.Proofs.YtdeelhbckfmaeaaGreatDoor.chk
open Go.Sx
set_option maxRecDepth 100000
theorem itB_p : itB 140 = true := by kernel_rfl
set_option maxRecDepth 100000 in
theorem go4_p : goes 140 4 = true := by kernel_rfl
set_option maxRecDepth 100000 in
theorem go10_p : goes 140 10 = true := by kernel_rfl
set_option maxRecDepth 100000 in
theorem go16_p : goes 140 16 = true := by kernel_rfl
set_option maxRecDepth 100000 in
theorem go22_p : goes 140 22 = true := by kernel_rfl
set_option maxRecDepth 100000 in
theorem go28_p : goes 140 28 = true := by kernel_rfl
set_option maxRecDepth 100000 in
theorem go34_p : goes 140 34 = true := by kernel_rfl
set_option maxRecDepth 100000 in
theorem go40_p : goes 140 40 = true := by kernel_rfl
set_option maxRecDepth 100000 in
theorem its1_p : its 140 1 = true := by kernel_rfl
set_option maxRecDepth 100000 in
theorem its7_p : its 140 7 = true := by kernel_rfl
set_option maxRecDepth 100000 in
theorem its13_p : its 140 13 = true := by kernel_rfl
set_option maxRecDepth 100000 in
theorem itC_r : itC 130 = true := by kernel_rfl
set_option maxRecDepth 100000 in
theorem go5_r : goes 130 5 = true := by kernel_rfl
set_option maxRecDepth 100000 in
theorem go11_r : goes 130 11 = true := by kernel_rfl
set_option maxRecDepth 100000 in
theorem go17_r : goes 130 17 = true := by kernel_rfl
set_option maxRecDepth 100000 in
theorem go23_r : goes 130 23 = true := by kernel_rfl
set_option maxRecDepth 100000 in
theorem go29_r : goes 130 29 = true := by kernel_rfl
set_option maxRecDepth 100000 in
theorem go35_r : goes 130 35 = true := by kernel_rfl
set_option maxRecDepth 100000 in
theorem go41_r : goes 130 41 = true := by kernel_rfl
set_option maxRecDepth 100000 in
theorem its2_r : its 130 2 = true := by kernel_rfl
set_option maxRecDepth 100000 in
theorem its8_r : its 130 8 = true := by kernel_rfl
set_option maxRecDepth 100000 in
theorem its14_r : its 130 14 = true := by kernel_rfl
end Go.Proofs.YtdeelhbckfmaeaaGreatDoor.chk
