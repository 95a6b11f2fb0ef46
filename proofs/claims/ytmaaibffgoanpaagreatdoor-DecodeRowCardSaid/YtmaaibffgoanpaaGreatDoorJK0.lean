/- For the seat: texts joined: ChkP0, ChkP1, ChkP2. -/
import Derived.Test.YtmaaibffgoanpaaGreatDoorJA
/- 'Check': the walks at some cases of the input. -/
namespace Go.Proofs.YtmaaibffgoanpaaGreatDoor.chk
open Go.Sx
set_option maxRecDepth 100000
theorem low_p : low 37 = true := by kernel_rfl
set_option maxRecDepth 100000 in
theorem go1_p : goes 37 1 = true := by kernel_rfl
set_option maxRecDepth 100000 in
theorem go7_p : goes 37 7 = true := by kernel_rfl
set_option maxRecDepth 100000 in
theorem go13_p : goes 37 13 = true := by kernel_rfl
set_option maxRecDepth 100000 in
theorem go19_p : goes 37 19 = true := by kernel_rfl
set_option maxRecDepth 100000 in
theorem go25_p : goes 37 25 = true := by kernel_rfl
set_option maxRecDepth 100000 in
theorem go31_p : goes 37 31 = true := by kernel_rfl
set_option maxRecDepth 100000 in
theorem go37_p : goes 37 37 = true := by kernel_rfl
set_option maxRecDepth 100000 in
theorem go44_p : goes 37 44 = true := by kernel_rfl
set_option maxRecDepth 100000 in
theorem its4_p : its 37 4 = true := by kernel_rfl
set_option maxRecDepth 100000 in
theorem its10_p : its 37 10 = true := by kernel_rfl
set_option maxRecDepth 100000 in
theorem high_r : high 20 = true := by kernel_rfl
set_option maxRecDepth 100000 in
theorem go2_r : goes 20 2 = true := by kernel_rfl
set_option maxRecDepth 100000 in
theorem go8_r : goes 20 8 = true := by kernel_rfl
set_option maxRecDepth 100000 in
theorem go14_r : goes 20 14 = true := by kernel_rfl
set_option maxRecDepth 100000 in
theorem go20_r : goes 20 20 = true := by kernel_rfl
set_option maxRecDepth 100000 in
theorem go26_r : goes 20 26 = true := by kernel_rfl
set_option maxRecDepth 100000 in
theorem go32_r : goes 20 32 = true := by kernel_rfl
set_option maxRecDepth 100000 in
theorem go38_r : goes 20 38 = true := by kernel_rfl
set_option maxRecDepth 100000 in
theorem go45_r : goes 20 45 = true := by kernel_rfl
set_option maxRecDepth 100000 in
theorem its5_r : its 20 5 = true := by kernel_rfl
set_option maxRecDepth 100000 in
theorem its11_r : its 20 11 = true := by kernel_rfl
end Go.Proofs.YtmaaibffgoanpaaGreatDoor.chk
/- 'Check': the walks at some cases of the input. -/
namespace Go.Proofs.YtmaaibffgoanpaaGreatDoor.chk
open Go.Sx
set_option maxRecDepth 100000
theorem high_p : high 37 = true := by kernel_rfl
set_option maxRecDepth 100000 in
theorem go2_p : goes 37 2 = true := by kernel_rfl
set_option maxRecDepth 100000 in
theorem go8_p : goes 37 8 = true := by kernel_rfl
set_option maxRecDepth 100000 in
theorem go14_p : goes 37 14 = true := by kernel_rfl
set_option maxRecDepth 100000 in
theorem go20_p : goes 37 20 = true := by kernel_rfl
set_option maxRecDepth 100000 in
theorem go26_p : goes 37 26 = true := by kernel_rfl
set_option maxRecDepth 100000 in
theorem go32_p : goes 37 32 = true := by kernel_rfl
set_option maxRecDepth 100000 in
theorem go38_p : goes 37 38 = true := by kernel_rfl
set_option maxRecDepth 100000 in
theorem go45_p : goes 37 45 = true := by kernel_rfl
set_option maxRecDepth 100000 in
theorem its5_p : its 37 5 = true := by kernel_rfl
set_option maxRecDepth 100000 in
theorem its11_p : its 37 11 = true := by kernel_rfl
set_option maxRecDepth 100000 in
theorem itA_r : itA 20 = true := by kernel_rfl
set_option maxRecDepth 100000 in
theorem go3_r : goes 20 3 = true := by kernel_rfl
set_option maxRecDepth 100000 in
theorem go9_r : goes 20 9 = true := by kernel_rfl
set_option maxRecDepth 100000 in
theorem go15_r : goes 20 15 = true := by kernel_rfl
set_option maxRecDepth 100000 in
theorem go21_r : goes 20 21 = true := by kernel_rfl
set_option maxRecDepth 100000 in
theorem go27_r : goes 20 27 = true := by kernel_rfl
set_option maxRecDepth 100000 in
theorem go33_r : goes 20 33 = true := by kernel_rfl
set_option maxRecDepth 100000 in
theorem go39_r : goes 20 39 = true := by kernel_rfl
set_option maxRecDepth 100000 in
theorem its0_r : its 20 0 = true := by kernel_rfl
set_option maxRecDepth 100000 in
theorem its6_r : its 20 6 = true := by kernel_rfl
set_option maxRecDepth 100000 in
theorem its12_r : its 20 12 = true := by kernel_rfl
end Go.Proofs.YtmaaibffgoanpaaGreatDoor.chk
/- 'Check': the walks at some cases of the input. -/
namespace Go.Proofs.YtmaaibffgoanpaaGreatDoor.chk
open Go.Sx
set_option maxRecDepth 100000
theorem itA_p : itA 37 = true := by kernel_rfl
set_option maxRecDepth 100000 in
theorem go3_p : goes 37 3 = true := by kernel_rfl
set_option maxRecDepth 100000 in
theorem go9_p : goes 37 9 = true := by kernel_rfl
set_option maxRecDepth 100000 in
theorem go15_p : goes 37 15 = true := by kernel_rfl
set_option maxRecDepth 100000 in
theorem go21_p : goes 37 21 = true := by kernel_rfl
set_option maxRecDepth 100000 in
theorem go27_p : goes 37 27 = true := by kernel_rfl
set_option maxRecDepth 100000 in
theorem go33_p : goes 37 33 = true := by kernel_rfl
set_option maxRecDepth 100000 in
theorem go39_p : goes 37 39 = true := by kernel_rfl
set_option maxRecDepth 100000 in
theorem its0_p : its 37 0 = true := by kernel_rfl
set_option maxRecDepth 100000 in
theorem its6_p : its 37 6 = true := by kernel_rfl
set_option maxRecDepth 100000 in
theorem its12_p : its 37 12 = true := by kernel_rfl
set_option maxRecDepth 100000 in
theorem itB_r : itB 20 = true := by kernel_rfl
set_option maxRecDepth 100000 in
theorem go4_r : goes 20 4 = true := by kernel_rfl
set_option maxRecDepth 100000 in
theorem go10_r : goes 20 10 = true := by kernel_rfl
set_option maxRecDepth 100000 in
theorem go16_r : goes 20 16 = true := by kernel_rfl
set_option maxRecDepth 100000 in
theorem go22_r : goes 20 22 = true := by kernel_rfl
set_option maxRecDepth 100000 in
theorem go28_r : goes 20 28 = true := by kernel_rfl
set_option maxRecDepth 100000 in
theorem go34_r : goes 20 34 = true := by kernel_rfl
set_option maxRecDepth 100000 in
theorem go40_r : goes 20 40 = true := by kernel_rfl
set_option maxRecDepth 100000 in
theorem its1_r : its 20 1 = true := by kernel_rfl
set_option maxRecDepth 100000 in
theorem its7_r : its 20 7 = true := by kernel_rfl
set_option maxRecDepth 100000 in
theorem its13_r : its 20 13 = true := by kernel_rfl
end Go.Proofs.YtmaaibffgoanpaaGreatDoor.chk
