/- For the seat: texts joined: ChkP5. -/
import Derived.Test.YtnpfihlaocpcfaaGreatDoorJL0a
/- 'Check': the walks at some cases of the input. -/
namespace Go.Proofs.YtnpfihlaocpcfaaGreatDoor.chk
open Go.Sx
set_option maxRecDepth 100000
theorem itD_p : itD 52 = true := by kernel_rfl
set_option maxRecDepth 100000 in
theorem go6_p : goes 52 6 = true := by kernel_rfl
set_option maxRecDepth 100000 in
theorem go12_p : goes 52 12 = true := by kernel_rfl
set_option maxRecDepth 100000 in
theorem go18_p : goes 52 18 = true := by kernel_rfl
set_option maxRecDepth 100000 in
theorem go24_p : goes 52 24 = true := by kernel_rfl
set_option maxRecDepth 100000 in
theorem go30_p : goes 52 30 = true := by kernel_rfl
set_option maxRecDepth 100000 in
theorem go36_p : goes 52 36 = true := by kernel_rfl
set_option maxRecDepth 100000 in
theorem go43_p : goes 52 43 = true := by kernel_rfl
set_option maxRecDepth 100000 in
theorem its3_p : its 52 3 = true := by kernel_rfl
set_option maxRecDepth 100000 in
theorem its9_p : its 52 9 = true := by kernel_rfl
set_option maxRecDepth 100000 in
theorem low_r : low 42 = true := by kernel_rfl
set_option maxRecDepth 100000 in
theorem go1_r : goes 42 1 = true := by kernel_rfl
set_option maxRecDepth 100000 in
theorem go7_r : goes 42 7 = true := by kernel_rfl
set_option maxRecDepth 100000 in
theorem go13_r : goes 42 13 = true := by kernel_rfl
set_option maxRecDepth 100000 in
theorem go19_r : goes 42 19 = true := by kernel_rfl
set_option maxRecDepth 100000 in
theorem go25_r : goes 42 25 = true := by kernel_rfl
set_option maxRecDepth 100000 in
theorem go31_r : goes 42 31 = true := by kernel_rfl
set_option maxRecDepth 100000 in
theorem go37_r : goes 42 37 = true := by kernel_rfl
set_option maxRecDepth 100000 in
theorem go44_r : goes 42 44 = true := by kernel_rfl
set_option maxRecDepth 100000 in
theorem its4_r : its 42 4 = true := by kernel_rfl
set_option maxRecDepth 100000 in
theorem its10_r : its 42 10 = true := by kernel_rfl
end Go.Proofs.YtnpfihlaocpcfaaGreatDoor.chk
