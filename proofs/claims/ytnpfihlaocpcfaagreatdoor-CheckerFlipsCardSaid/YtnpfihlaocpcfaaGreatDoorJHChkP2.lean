/- For the seat: texts joined: ChkP2. -/
import Derived.Test.YtnpfihlaocpcfaaGreatDoorJL0a
/- 'Check': the walks at some cases of the input. -/
namespace Go.Proofs.YtnpfihlaocpcfaaGreatDoor.chk
open Go.Sx
set_option maxRecDepth 100000
theorem itA_p : itA 52 = true := by kernel_rfl
set_option maxRecDepth 100000 in
theorem go3_p : goes 52 3 = true := by kernel_rfl
set_option maxRecDepth 100000 in
theorem go9_p : goes 52 9 = true := by kernel_rfl
set_option maxRecDepth 100000 in
theorem go15_p : goes 52 15 = true := by kernel_rfl
set_option maxRecDepth 100000 in
theorem go21_p : goes 52 21 = true := by kernel_rfl
set_option maxRecDepth 100000 in
theorem go27_p : goes 52 27 = true := by kernel_rfl
set_option maxRecDepth 100000 in
theorem go33_p : goes 52 33 = true := by kernel_rfl
set_option maxRecDepth 100000 in
theorem go39_p : goes 52 39 = true := by kernel_rfl
set_option maxRecDepth 100000 in
theorem its0_p : its 52 0 = true := by kernel_rfl
set_option maxRecDepth 100000 in
theorem its6_p : its 52 6 = true := by kernel_rfl
set_option maxRecDepth 100000 in
theorem its12_p : its 52 12 = true := by kernel_rfl
set_option maxRecDepth 100000 in
theorem itB_r : itB 42 = true := by kernel_rfl
set_option maxRecDepth 100000 in
theorem go4_r : goes 42 4 = true := by kernel_rfl
set_option maxRecDepth 100000 in
theorem go10_r : goes 42 10 = true := by kernel_rfl
set_option maxRecDepth 100000 in
theorem go16_r : goes 42 16 = true := by kernel_rfl
set_option maxRecDepth 100000 in
theorem go22_r : goes 42 22 = true := by kernel_rfl
set_option maxRecDepth 100000 in
theorem go28_r : goes 42 28 = true := by kernel_rfl
set_option maxRecDepth 100000 in
theorem go34_r : goes 42 34 = true := by kernel_rfl
set_option maxRecDepth 100000 in
theorem go40_r : goes 42 40 = true := by kernel_rfl
set_option maxRecDepth 100000 in
theorem its1_r : its 42 1 = true := by kernel_rfl
set_option maxRecDepth 100000 in
theorem its7_r : its 42 7 = true := by kernel_rfl
set_option maxRecDepth 100000 in
theorem its13_r : its 42 13 = true := by kernel_rfl
end Go.Proofs.YtnpfihlaocpcfaaGreatDoor.chk
