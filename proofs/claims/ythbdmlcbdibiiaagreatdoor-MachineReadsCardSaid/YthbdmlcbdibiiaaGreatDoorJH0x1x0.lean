/- For the seat: texts joined: ChkP0, ChkP1. -/
import Derived.Test.YthbdmlcbdibiiaaGreatDoorJL0x1
/- 'Check': the walks at some cases of the input. -/
namespace Go.Proofs.YthbdmlcbdibiiaaGreatDoor.chk
open Go.Sx
set_option maxRecDepth 100000
theorem low_p : low 36 = true := by kernel_rfl
set_option maxRecDepth 100000 in
theorem go1_p : goes 36 1 = true := by kernel_rfl
set_option maxRecDepth 100000 in
theorem go7_p : goes 36 7 = true := by kernel_rfl
set_option maxRecDepth 100000 in
theorem go13_p : goes 36 13 = true := by kernel_rfl
set_option maxRecDepth 100000 in
theorem go19_p : goes 36 19 = true := by kernel_rfl
set_option maxRecDepth 100000 in
theorem go25_p : goes 36 25 = true := by kernel_rfl
set_option maxRecDepth 100000 in
theorem go31_p : goes 36 31 = true := by kernel_rfl
set_option maxRecDepth 100000 in
theorem go37_p : goes 36 37 = true := by kernel_rfl
set_option maxRecDepth 100000 in
theorem go44_p : goes 36 44 = true := by kernel_rfl
set_option maxRecDepth 100000 in
theorem its4_p : its 36 4 = true := by kernel_rfl
set_option maxRecDepth 100000 in
theorem its10_p : its 36 10 = true := by kernel_rfl
set_option maxRecDepth 100000 in
theorem high_r : high 18 = true := by kernel_rfl
set_option maxRecDepth 100000 in
theorem go2_r : goes 18 2 = true := by kernel_rfl
set_option maxRecDepth 100000 in
theorem go8_r : goes 18 8 = true := by kernel_rfl
set_option maxRecDepth 100000 in
theorem go14_r : goes 18 14 = true := by kernel_rfl
set_option maxRecDepth 100000 in
theorem go20_r : goes 18 20 = true := by kernel_rfl
set_option maxRecDepth 100000 in
theorem go26_r : goes 18 26 = true := by kernel_rfl
set_option maxRecDepth 100000 in
theorem go32_r : goes 18 32 = true := by kernel_rfl
set_option maxRecDepth 100000 in
theorem go38_r : goes 18 38 = true := by kernel_rfl
set_option maxRecDepth 100000 in
theorem go45_r : goes 18 45 = true := by kernel_rfl
set_option maxRecDepth 100000 in
theorem its5_r : its 18 5 = true := by kernel_rfl
set_option maxRecDepth 100000 in
theorem its11_r : its 18 11 = true := by kernel_rfl
end Go.Proofs.YthbdmlcbdibiiaaGreatDoor.chk
/- 'Check': the walks at some cases of the input. -/
namespace Go.Proofs.YthbdmlcbdibiiaaGreatDoor.chk
open Go.Sx
set_option maxRecDepth 100000
theorem high_p : high 36 = true := by kernel_rfl
set_option maxRecDepth 100000 in
theorem go2_p : goes 36 2 = true := by kernel_rfl
set_option maxRecDepth 100000 in
theorem go8_p : goes 36 8 = true := by kernel_rfl
set_option maxRecDepth 100000 in
theorem go14_p : goes 36 14 = true := by kernel_rfl
set_option maxRecDepth 100000 in
theorem go20_p : goes 36 20 = true := by kernel_rfl
set_option maxRecDepth 100000 in
theorem go26_p : goes 36 26 = true := by kernel_rfl
set_option maxRecDepth 100000 in
theorem go32_p : goes 36 32 = true := by kernel_rfl
set_option maxRecDepth 100000 in
theorem go38_p : goes 36 38 = true := by kernel_rfl
set_option maxRecDepth 100000 in
theorem go45_p : goes 36 45 = true := by kernel_rfl
set_option maxRecDepth 100000 in
theorem its5_p : its 36 5 = true := by kernel_rfl
set_option maxRecDepth 100000 in
theorem its11_p : its 36 11 = true := by kernel_rfl
set_option maxRecDepth 100000 in
theorem itA_r : itA 18 = true := by kernel_rfl
set_option maxRecDepth 100000 in
theorem go3_r : goes 18 3 = true := by kernel_rfl
set_option maxRecDepth 100000 in
theorem go9_r : goes 18 9 = true := by kernel_rfl
set_option maxRecDepth 100000 in
theorem go15_r : goes 18 15 = true := by kernel_rfl
set_option maxRecDepth 100000 in
theorem go21_r : goes 18 21 = true := by kernel_rfl
set_option maxRecDepth 100000 in
theorem go27_r : goes 18 27 = true := by kernel_rfl
set_option maxRecDepth 100000 in
theorem go33_r : goes 18 33 = true := by kernel_rfl
set_option maxRecDepth 100000 in
theorem go39_r : goes 18 39 = true := by kernel_rfl
set_option maxRecDepth 100000 in
theorem its0_r : its 18 0 = true := by kernel_rfl
set_option maxRecDepth 100000 in
theorem its6_r : its 18 6 = true := by kernel_rfl
set_option maxRecDepth 100000 in
theorem its12_r : its 18 12 = true := by kernel_rfl
end Go.Proofs.YthbdmlcbdibiiaaGreatDoor.chk
