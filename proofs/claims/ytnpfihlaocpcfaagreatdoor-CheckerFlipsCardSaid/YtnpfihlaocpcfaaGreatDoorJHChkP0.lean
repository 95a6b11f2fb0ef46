/- For the seat: texts joined: ChkP0. -/
import Derived.Test.YtnpfihlaocpcfaaGreatDoorJL0a
/- 'Check': the walks at some cases of the input. -/
namespace Go.Proofs.YtnpfihlaocpcfaaGreatDoor.chk
open Go.Sx
set_option maxRecDepth 100000
theorem low_p : low 52 = true := by kernel_rfl
set_option maxRecDepth 100000 in
theorem go1_p : goes 52 1 = true := by kernel_rfl
set_option maxRecDepth 100000 in
theorem go7_p : goes 52 7 = true := by kernel_rfl
set_option maxRecDepth 100000 in
theorem go13_p : goes 52 13 = true := by kernel_rfl
set_option maxRecDepth 100000 in
theorem go19_p : goes 52 19 = true := by kernel_rfl
set_option maxRecDepth 100000 in
theorem go25_p : goes 52 25 = true := by kernel_rfl
set_option maxRecDepth 100000 in
theorem go31_p : goes 52 31 = true := by kernel_rfl
set_option maxRecDepth 100000 in
theorem go37_p : goes 52 37 = true := by kernel_rfl
set_option maxRecDepth 100000 in
theorem go44_p : goes 52 44 = true := by kernel_rfl
set_option maxRecDepth 100000 in
theorem its4_p : its 52 4 = true := by kernel_rfl
set_option maxRecDepth 100000 in
theorem its10_p : its 52 10 = true := by kernel_rfl
set_option maxRecDepth 100000 in
theorem high_r : high 42 = true := by kernel_rfl
set_option maxRecDepth 100000 in
theorem go2_r : goes 42 2 = true := by kernel_rfl
set_option maxRecDepth 100000 in
theorem go8_r : goes 42 8 = true := by kernel_rfl
set_option maxRecDepth 100000 in
theorem go14_r : goes 42 14 = true := by kernel_rfl
set_option maxRecDepth 100000 in
theorem go20_r : goes 42 20 = true := by kernel_rfl
set_option maxRecDepth 100000 in
theorem go26_r : goes 42 26 = true := by kernel_rfl
set_option maxRecDepth 100000 in
theorem go32_r : goes 42 32 = true := by kernel_rfl
set_option maxRecDepth 100000 in
theorem go38_r : goes 42 38 = true := by kernel_rfl
set_option maxRecDepth 100000 in
theorem go45_r : goes 42 45 = true := by kernel_rfl
set_option maxRecDepth 100000 in
theorem its5_r : its 42 5 = true := by kernel_rfl
set_option maxRecDepth 100000 in
theorem its11_r : its 42 11 = true := by kernel_rfl
end Go.Proofs.YtnpfihlaocpcfaaGreatDoor.chk
