/- For the seat: texts joined: ChkP2, ChkP3. -/
import Derived.Test.YthbdmlcbdibiiaaGreatDoorJL0x1
/- 'Check': the walks at some cases of the input. -/
namespace Go.Proofs.YthbdmlcbdibiiaaGreatDoor.chk
open Go.Sx
set_option maxRecDepth 100000
theorem itA_p : itA 36 = true := by kernel_rfl
set_option maxRecDepth 100000 in
theorem go3_p : goes 36 3 = true := by kernel_rfl
set_option maxRecDepth 100000 in
theorem go9_p : goes 36 9 = true := by kernel_rfl
set_option maxRecDepth 100000 in
theorem go15_p : goes 36 15 = true := by kernel_rfl
set_option maxRecDepth 100000 in
theorem go21_p : goes 36 21 = true := by kernel_rfl
set_option maxRecDepth 100000 in
theorem go27_p : goes 36 27 = true := by kernel_rfl
set_option maxRecDepth 100000 in
theorem go33_p : goes 36 33 = true := by kernel_rfl
set_option maxRecDepth 100000 in
theorem go39_p : goes 36 39 = true := by kernel_rfl
set_option maxRecDepth 100000 in
theorem its0_p : its 36 0 = true := by kernel_rfl
set_option maxRecDepth 100000 in
theorem its6_p : its 36 6 = true := by kernel_rfl
set_option maxRecDepth 100000 in
theorem its12_p : its 36 12 = true := by kernel_rfl
set_option maxRecDepth 100000 in
theorem itB_r : itB 18 = true := by kernel_rfl
set_option maxRecDepth 100000 in
theorem go4_r : goes 18 4 = true := by kernel_rfl
set_option maxRecDepth 100000 in
theorem go10_r : goes 18 10 = true := by kernel_rfl
set_option maxRecDepth 100000 in
theorem go16_r : goes 18 16 = true := by kernel_rfl
set_option maxRecDepth 100000 in
theorem go22_r : goes 18 22 = true := by kernel_rfl
set_option maxRecDepth 100000 in
theorem go28_r : goes 18 28 = true := by kernel_rfl
set_option maxRecDepth 100000 in
theorem go34_r : goes 18 34 = true := by kernel_rfl
set_option maxRecDepth 100000 in
theorem go40_r : goes 18 40 = true := by kernel_rfl
set_option maxRecDepth 100000 in
theorem its1_r : its 18 1 = true := by kernel_rfl
set_option maxRecDepth 100000 in
theorem its7_r : its 18 7 = true := by kernel_rfl
set_option maxRecDepth 100000 in
theorem its13_r : its 18 13 = true := by kernel_rfl
end Go.Proofs.YthbdmlcbdibiiaaGreatDoor.chk
/- 'Check': the walks at some cases of the input. -/
namespace Go.Proofs.YthbdmlcbdibiiaaGreatDoor.chk
open Go.Sx
set_option maxRecDepth 100000
theorem itB_p : itB 36 = true := by kernel_rfl
set_option maxRecDepth 100000 in
theorem go4_p : goes 36 4 = true := by kernel_rfl
set_option maxRecDepth 100000 in
theorem go10_p : goes 36 10 = true := by kernel_rfl
set_option maxRecDepth 100000 in
theorem go16_p : goes 36 16 = true := by kernel_rfl
set_option maxRecDepth 100000 in
theorem go22_p : goes 36 22 = true := by kernel_rfl
set_option maxRecDepth 100000 in
theorem go28_p : goes 36 28 = true := by kernel_rfl
set_option maxRecDepth 100000 in
theorem go34_p : goes 36 34 = true := by kernel_rfl
set_option maxRecDepth 100000 in
theorem go40_p : goes 36 40 = true := by kernel_rfl
set_option maxRecDepth 100000 in
theorem its1_p : its 36 1 = true := by kernel_rfl
set_option maxRecDepth 100000 in
theorem its7_p : its 36 7 = true := by kernel_rfl
set_option maxRecDepth 100000 in
theorem its13_p : its 36 13 = true := by kernel_rfl
set_option maxRecDepth 100000 in
theorem itC_r : itC 18 = true := by kernel_rfl
set_option maxRecDepth 100000 in
theorem go5_r : goes 18 5 = true := by kernel_rfl
set_option maxRecDepth 100000 in
theorem go11_r : goes 18 11 = true := by kernel_rfl
set_option maxRecDepth 100000 in
theorem go17_r : goes 18 17 = true := by kernel_rfl
set_option maxRecDepth 100000 in
theorem go23_r : goes 18 23 = true := by kernel_rfl
set_option maxRecDepth 100000 in
theorem go29_r : goes 18 29 = true := by kernel_rfl
set_option maxRecDepth 100000 in
theorem go35_r : goes 18 35 = true := by kernel_rfl
set_option maxRecDepth 100000 in
theorem go41_r : goes 18 41 = true := by kernel_rfl
set_option maxRecDepth 100000 in
theorem its2_r : its 18 2 = true := by kernel_rfl
set_option maxRecDepth 100000 in
theorem its8_r : its 18 8 = true := by kernel_rfl
set_option maxRecDepth 100000 in
theorem its14_r : its 18 14 = true := by kernel_rfl
end Go.Proofs.YthbdmlcbdibiiaaGreatDoor.chk
