/- For the seat: texts joined: ChkP3. -/
import Derived.Test.YtnpfihlaocpcfaaGreatDoorJL0a
/- 'Check': the walks at some cases of the input. -/
namespace Go.Proofs.YtnpfihlaocpcfaaGreatDoor.chk
open Go.Sx
set_option maxRecDepth 100000
theorem itB_p : itB 52 = true := by kernel_rfl
set_option maxRecDepth 100000 in
theorem go4_p : goes 52 4 = true := by kernel_rfl
set_option maxRecDepth 100000 in
theorem go10_p : goes 52 10 = true := by kernel_rfl
set_option maxRecDepth 100000 in
theorem go16_p : goes 52 16 = true := by kernel_rfl
set_option maxRecDepth 100000 in
theorem go22_p : goes 52 22 = true := by kernel_rfl
set_option maxRecDepth 100000 in
theorem go28_p : goes 52 28 = true := by kernel_rfl
set_option maxRecDepth 100000 in
theorem go34_p : goes 52 34 = true := by kernel_rfl
set_option maxRecDepth 100000 in
theorem go40_p : goes 52 40 = true := by kernel_rfl
set_option maxRecDepth 100000 in
theorem its1_p : its 52 1 = true := by kernel_rfl
set_option maxRecDepth 100000 in
theorem its7_p : its 52 7 = true := by kernel_rfl
set_option maxRecDepth 100000 in
theorem its13_p : its 52 13 = true := by kernel_rfl
set_option maxRecDepth 100000 in
theorem itC_r : itC 42 = true := by kernel_rfl
set_option maxRecDepth 100000 in
theorem go5_r : goes 42 5 = true := by kernel_rfl
set_option maxRecDepth 100000 in
theorem go11_r : goes 42 11 = true := by kernel_rfl
set_option maxRecDepth 100000 in
theorem go17_r : goes 42 17 = true := by kernel_rfl
set_option maxRecDepth 100000 in
theorem go23_r : goes 42 23 = true := by kernel_rfl
set_option maxRecDepth 100000 in
theorem go29_r : goes 42 29 = true := by kernel_rfl
set_option maxRecDepth 100000 in
theorem go35_r : goes 42 35 = true := by kernel_rfl
set_option maxRecDepth 100000 in
theorem go41_r : goes 42 41 = true := by kernel_rfl
set_option maxRecDepth 100000 in
theorem its2_r : its 42 2 = true := by kernel_rfl
set_option maxRecDepth 100000 in
theorem its8_r : its 42 8 = true := by kernel_rfl
set_option maxRecDepth 100000 in
theorem its14_r : its 42 14 = true := by kernel_rfl
end Go.Proofs.YtnpfihlaocpcfaaGreatDoor.chk
