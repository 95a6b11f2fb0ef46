/- For the seat: texts joined: ChkP1. -/
import Derived.Test.YtnpfihlaocpcfaaGreatDoorJL0a
/- 'Check': the walks at some cases of the input. -/
namespace Go.Proofs.YtnpfihlaocpcfaaGreatDoor.chk
open Go.Sx
set_option maxRecDepth 100000
theorem high_p : high 52 = true := by kernel_rfl
set_option maxRecDepth 100000 in
theorem go2_p : goes 52 2 = true := by kernel_rfl
set_option maxRecDepth 100000 in
theorem go8_p : goes 52 8 = true := by kernel_rfl
set_option maxRecDepth 100000 in
theorem go14_p : goes 52 14 = true := by kernel_rfl
set_option maxRecDepth 100000 in
theorem go20_p : goes 52 20 = true := by kernel_rfl
set_option maxRecDepth 100000 in
theorem go26_p : goes 52 26 = true := by kernel_rfl
set_option maxRecDepth 100000 in
theorem go32_p : goes 52 32 = true := by kernel_rfl
set_option maxRecDepth 100000 in
theorem go38_p : goes 52 38 = true := by kernel_rfl
set_option maxRecDepth 100000 in
theorem go45_p : goes 52 45 = true := by kernel_rfl
set_option maxRecDepth 100000 in
theorem its5_p : its 52 5 = true := by kernel_rfl
set_option maxRecDepth 100000 in
theorem its11_p : its 52 11 = true := by kernel_rfl
set_option maxRecDepth 100000 in
theorem itA_r : itA 42 = true := by kernel_rfl
set_option maxRecDepth 100000 in
theorem go3_r : goes 42 3 = true := by kernel_rfl
set_option maxRecDepth 100000 in
theorem go9_r : goes 42 9 = true := by kernel_rfl
set_option maxRecDepth 100000 in
theorem go15_r : goes 42 15 = true := by kernel_rfl
set_option maxRecDepth 100000 in
theorem go21_r : goes 42 21 = true := by kernel_rfl
set_option maxRecDepth 100000 in
theorem go27_r : goes 42 27 = true := by kernel_rfl
set_option maxRecDepth 100000 in
theorem go33_r : goes 42 33 = true := by kernel_rfl
set_option maxRecDepth 100000 in
theorem go39_r : goes 42 39 = true := by kernel_rfl
set_option maxRecDepth 100000 in
theorem its0_r : its 42 0 = true := by kernel_rfl
set_option maxRecDepth 100000 in
theorem its6_r : its 42 6 = true := by kernel_rfl
set_option maxRecDepth 100000 in
theorem its12_r : its 42 12 = true := by kernel_rfl
end Go.Proofs.YtnpfihlaocpcfaaGreatDoor.chk
