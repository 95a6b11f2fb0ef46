/- For the seat: texts joined: ChkP4, ChkP5. -/
import Derived.Test.YthbdmlcbdibiiaaGreatDoorJL0x1
/- 'Check': the walks at some cases of the input. -/
namespace Go.Proofs.YthbdmlcbdibiiaaGreatDoor.chk
open Go.Sx
set_option maxRecDepth 100000
theorem itC_p : itC 36 = true := by kernel_rfl
set_option maxRecDepth 100000 in
theorem go5_p : goes 36 5 = true := by kernel_rfl
set_option maxRecDepth 100000 in
theorem go11_p : goes 36 11 = true := by kernel_rfl
set_option maxRecDepth 100000 in
theorem go17_p : goes 36 17 = true := by kernel_rfl
set_option maxRecDepth 100000 in
theorem go23_p : goes 36 23 = true := by kernel_rfl
set_option maxRecDepth 100000 in
theorem go29_p : goes 36 29 = true := by kernel_rfl
set_option maxRecDepth 100000 in
theorem go35_p : goes 36 35 = true := by kernel_rfl
set_option maxRecDepth 100000 in
theorem go41_p : goes 36 41 = true := by kernel_rfl
set_option maxRecDepth 100000 in
theorem its2_p : its 36 2 = true := by kernel_rfl
set_option maxRecDepth 100000 in
theorem its8_p : its 36 8 = true := by kernel_rfl
set_option maxRecDepth 100000 in
theorem its14_p : its 36 14 = true := by kernel_rfl
set_option maxRecDepth 100000 in
theorem itD_r : itD 18 = true := by kernel_rfl
set_option maxRecDepth 100000 in
theorem go6_r : goes 18 6 = true := by kernel_rfl
set_option maxRecDepth 100000 in
theorem go12_r : goes 18 12 = true := by kernel_rfl
set_option maxRecDepth 100000 in
theorem go18_r : goes 18 18 = true := by kernel_rfl
set_option maxRecDepth 100000 in
theorem go24_r : goes 18 24 = true := by kernel_rfl
set_option maxRecDepth 100000 in
theorem go30_r : goes 18 30 = true := by kernel_rfl
set_option maxRecDepth 100000 in
theorem go36_r : goes 18 36 = true := by kernel_rfl
set_option maxRecDepth 100000 in
theorem go43_r : goes 18 43 = true := by kernel_rfl
set_option maxRecDepth 100000 in
theorem its3_r : its 18 3 = true := by kernel_rfl
set_option maxRecDepth 100000 in
theorem its9_r : its 18 9 = true := by kernel_rfl
end Go.Proofs.YthbdmlcbdibiiaaGreatDoor.chk
/- 'Check': the walks at some cases of the input. -/
namespace Go.Proofs.YthbdmlcbdibiiaaGreatDoor.chk
open Go.Sx
set_option maxRecDepth 100000
theorem itD_p : itD 36 = true := by kernel_rfl
set_option maxRecDepth 100000 in
theorem go6_p : goes 36 6 = true := by kernel_rfl
set_option maxRecDepth 100000 in
theorem go12_p : goes 36 12 = true := by kernel_rfl
set_option maxRecDepth 100000 in
theorem go18_p : goes 36 18 = true := by kernel_rfl
set_option maxRecDepth 100000 in
theorem go24_p : goes 36 24 = true := by kernel_rfl
set_option maxRecDepth 100000 in
theorem go30_p : goes 36 30 = true := by kernel_rfl
set_option maxRecDepth 100000 in
theorem go36_p : goes 36 36 = true := by kernel_rfl
set_option maxRecDepth 100000 in
theorem go43_p : goes 36 43 = true := by kernel_rfl
set_option maxRecDepth 100000 in
theorem its3_p : its 36 3 = true := by kernel_rfl
set_option maxRecDepth 100000 in
theorem its9_p : its 36 9 = true := by kernel_rfl
set_option maxRecDepth 100000 in
theorem low_r : low 18 = true := by kernel_rfl
set_option maxRecDepth 100000 in
theorem go1_r : goes 18 1 = true := by kernel_rfl
set_option maxRecDepth 100000 in
theorem go7_r : goes 18 7 = true := by kernel_rfl
set_option maxRecDepth 100000 in
theorem go13_r : goes 18 13 = true := by kernel_rfl
set_option maxRecDepth 100000 in
theorem go19_r : goes 18 19 = true := by kernel_rfl
set_option maxRecDepth 100000 in
theorem go25_r : goes 18 25 = true := by kernel_rfl
set_option maxRecDepth 100000 in
theorem go31_r : goes 18 31 = true := by kernel_rfl
set_option maxRecDepth 100000 in
theorem go37_r : goes 18 37 = true := by kernel_rfl
set_option maxRecDepth 100000 in
theorem go44_r : goes 18 44 = true := by kernel_rfl
set_option maxRecDepth 100000 in
theorem its4_r : its 18 4 = true := by kernel_rfl
set_option maxRecDepth 100000 in
theorem its10_r : its 18 10 = true := by kernel_rfl
end Go.Proofs.YthbdmlcbdibiiaaGreatDoor.chk
