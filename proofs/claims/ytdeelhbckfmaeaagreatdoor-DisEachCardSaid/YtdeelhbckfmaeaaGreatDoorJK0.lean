/- For the seat: texts joined: ChkP0, ChkP1. -/
import Derived.Test.YtdeelhbckfmaeaaGreatDoorJA
/- 'Check': the walks at some cases of the input. -/
namespace Go.Proofs.YtdeelhbckfmaeaaGreatDoor.chk
open Go.Sx
set_option maxRecDepth 100000
theorem low_p : low 140 = true := by kernel_rfl
set_option maxRecDepth 100000 in
theorem go1_p : goes 140 1 = true := by kernel_rfl
set_option maxRecDepth 100000 in
theorem go7_p : goes 140 7 = true := by kernel_rfl
set_option maxRecDepth 100000 in
theorem go13_p : goes 140 13 = true := by kernel_rfl
set_option maxRecDepth 100000 in
theorem go19_p : goes 140 19 = true := by kernel_rfl
set_option maxRecDepth 100000 in
theorem go25_p : goes 140 25 = true := by kernel_rfl
set_option maxRecDepth 100000 in
theorem go31_p : goes 140 31 = true := by kernel_rfl
set_option maxRecDepth 100000 in
theorem go37_p : goes 140 37 = true := by kernel_rfl
set_option maxRecDepth 100000 in
theorem go44_p : goes 140 44 = true := by kernel_rfl
set_option maxRecDepth 100000 in
theorem its4_p : its 140 4 = true := by kernel_rfl
set_option maxRecDepth 100000 in
theorem its10_p : its 140 10 = true := by kernel_rfl
set_option maxRecDepth 100000 in
theorem high_r : high 130 = true := by kernel_rfl
set_option maxRecDepth 100000 in
theorem go2_r : goes 130 2 = true := by kernel_rfl
set_option maxRecDepth 100000 in
theorem go8_r : goes 130 8 = true := by kernel_rfl
set_option maxRecDepth 100000 in
theorem go14_r : goes 130 14 = true := by kernel_rfl
set_option maxRecDepth 100000 in
theorem go20_r : goes 130 20 = true := by kernel_rfl
set_option maxRecDepth 100000 in
theorem go26_r : goes 130 26 = true := by kernel_rfl
set_option maxRecDepth 100000 in
theorem go32_r : goes 130 32 = true := by kernel_rfl
set_option maxRecDepth 100000 in
theorem go38_r : goes 130 38 = true := by kernel_rfl
set_option maxRecDepth 100000 in
theorem go45_r : goes 130 45 = true := by kernel_rfl
set_option maxRecDepth 100000 in
theorem its5_r : its 130 5 = true := by kernel_rfl
set_option maxRecDepth 100000 in
theorem its11_r : its 130 11 = true := by kernel_rfl
end Go.Proofs.YtdeelhbckfmaeaaGreatDoor.chk
/- 'Check': the walks at some cases of the input. -/
namespace Go.Proofs.YtdeelhbckfmaeaaGreatDoor.chk
open Go.Sx
set_option maxRecDepth 100000
theorem high_p : high 140 = true := by kernel_rfl
set_option maxRecDepth 100000 in
theorem go2_p : goes 140 2 = true := by kernel_rfl
set_option maxRecDepth 100000 in
theorem go8_p : goes 140 8 = true := by kernel_rfl
set_option maxRecDepth 100000 in
theorem go14_p : goes 140 14 = true := by kernel_rfl
set_option maxRecDepth 100000 in
theorem go20_p : goes 140 20 = true := by kernel_rfl
set_option maxRecDepth 100000 in
theorem go26_p : goes 140 26 = true := by kernel_rfl
set_option maxRecDepth 100000 in
theorem go32_p : goes 140 32 = true := by kernel_rfl
set_option maxRecDepth 100000 in
theorem go38_p : goes 140 38 = true := by kernel_rfl
set_option maxRecDepth 100000 in
theorem go45_p : goes 140 45 = true := by kernel_rfl
set_option maxRecDepth 100000 in
theorem its5_p : its 140 5 = true := by kernel_rfl
set_option maxRecDepth 100000 in
theorem its11_p : its 140 11 = true := by kernel_rfl
set_option maxRecDepth 100000 in
theorem itA_r : itA 130 = true := by kernel_rfl
set_option maxRecDepth 100000 in
theorem go3_r : goes 130 3 = true := by kernel_rfl
set_option maxRecDepth 100000 in
theorem go9_r : goes 130 9 = true := by kernel_rfl
set_option maxRecDepth 100000 in
theorem go15_r : goes 130 15 = true := by kernel_rfl
set_option maxRecDepth 100000 in
theorem go21_r : goes 130 21 = true := by kernel_rfl
set_option maxRecDepth 100000 in
theorem go27_r : goes 130 27 = true := by kernel_rfl
set_option maxRecDepth 100000 in
theorem go33_r : goes 130 33 = true := by kernel_rfl
set_option maxRecDepth 100000 in
theorem go39_r : goes 130 39 = true := by kernel_rfl
set_option maxRecDepth 100000 in
theorem its0_r : its 130 0 = true := by kernel_rfl
set_option maxRecDepth 100000 in
theorem its6_r : its 130 6 = true := by kernel_rfl
set_option maxRecDepth 100000 in
theorem its12_r : its 130 12 = true := by kernel_rfl
end Go.Proofs.YtdeelhbckfmaeaaGreatDoor.chk
