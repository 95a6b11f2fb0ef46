/- For the seat: texts joined: ChkP4. -/
import Derived.Test.YtnpfihlaocpcfaaGreatDoorJL0a
/- 'Check': the walks at some cases of the input. -/
namespace Go.Proofs.YtnpfihlaocpcfaaGreatDoor.chk
open Go.Sx
set_option maxRecDepth 100000
theorem itC_p : itC 52 = true := by kernel_rfl
set_option maxRecDepth 100000 in
theorem go5_p : goes 52 5 = true := by kernel_rfl
set_option maxRecDepth 100000 in
theorem go11_p : goes 52 11 = true := by kernel_rfl
set_option maxRecDepth 100000 in
theorem go17_p : goes 52 17 = true := by kernel_rfl
set_option maxRecDepth 100000 in
theorem go23_p : goes 52 23 = true := by kernel_rfl
set_option maxRecDepth 100000 in
theorem go29_p : goes 52 29 = true := by kernel_rfl
set_option maxRecDepth 100000 in
theorem go35_p : goes 52 35 = true := by kernel_rfl
set_option maxRecDepth 100000 in
theorem go41_p : goes 52 41 = true := by kernel_rfl
set_option maxRecDepth 100000 in
theorem its2_p : its 52 2 = true := by kernel_rfl
set_option maxRecDepth 100000 in
theorem its8_p : its 52 8 = true := by kernel_rfl
set_option maxRecDepth 100000 in
theorem its14_p : its 52 14 = true := by kernel_rfl
set_option maxRecDepth 100000 in
theorem itD_r : itD 42 = true := by kernel_rfl
set_option maxRecDepth 100000 in
theorem go6_r : goes 42 6 = true := by kernel_rfl
set_option maxRecDepth 100000 in
theorem go12_r : goes 42 12 = true := by kernel_rfl
set_option maxRecDepth 100000 in
theorem go18_r : goes 42 18 = true := by kernel_rfl
set_option maxRecDepth 100000 in
theorem go24_r : goes 42 24 = true := by kernel_rfl
set_option maxRecDepth 100000 in
theorem go30_r : goes 42 30 = true := by kernel_rfl
set_option maxRecDepth 100000 in
theorem go36_r : goes 42 36 = true := by kernel_rfl
set_option maxRecDepth 100000 in
theorem go43_r : goes 42 43 = true := by kernel_rfl
set_option maxRecDepth 100000 in
theorem its3_r : its 42 3 = true := by kernel_rfl
set_option maxRecDepth 100000 in
theorem its9_r : its 42 9 = true := by kernel_rfl
end Go.Proofs.YtnpfihlaocpcfaaGreatDoor.chk
