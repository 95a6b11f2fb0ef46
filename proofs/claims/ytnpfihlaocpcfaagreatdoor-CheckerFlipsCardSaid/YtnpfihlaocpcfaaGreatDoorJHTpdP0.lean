/- For the seat: texts joined: TpdP0. -/
import Derived.Test.YtnpfihlaocpcfaaGreatDoorJL1b
/- TpdP0: the program's decoder of two halfwords, walked at some cases of the input. -/
namespace Go.Proofs.YtnpfihlaocpcfaaGreatDoor.tpd
open Go.Sx
set_option maxRecDepth 100000
theorem w0x0 : ((List.range' 0 2).all fun j => tal.atP j) = true := by kernel_rfl
set_option maxRecDepth 100000 in
theorem w0x10 : ((List.range' 10 2).all fun j => tal.atP j) = true := by kernel_rfl
set_option maxRecDepth 100000 in
theorem w0x20 : ((List.range' 20 2).all fun j => tal.atP j) = true := by kernel_rfl
set_option maxRecDepth 100000 in
theorem w0x30 : ((List.range' 30 2).all fun j => tal.atP j) = true := by kernel_rfl
set_option maxRecDepth 100000 in
theorem w0x40 : ((List.range' 40 2).all fun j => tal.atP j) = true := by kernel_rfl
set_option maxRecDepth 100000 in
theorem w0x50 : ((List.range' 50 2).all fun j => tal.atP j) = true := by kernel_rfl
set_option maxRecDepth 100000 in
theorem w0x60 : ((List.range' 60 2).all fun j => tal.atP j) = true := by kernel_rfl
set_option maxRecDepth 100000 in
theorem w0x70 : ((List.range' 70 2).all fun j => tal.atP j) = true := by kernel_rfl
set_option maxRecDepth 100000 in
theorem w0x80 : ((List.range' 80 2).all fun j => tal.atP j) = true := by kernel_rfl
set_option maxRecDepth 100000 in
theorem w0x90 : ((List.range' 90 2).all fun j => tal.atP j) = true := by kernel_rfl
set_option maxRecDepth 100000 in
theorem w0x100 : ((List.range' 100 2).all fun j => tal.atP j) = true := by kernel_rfl
set_option maxRecDepth 100000 in
theorem w0x110 : ((List.range' 110 2).all fun j => tal.atP j) = true := by kernel_rfl
set_option maxRecDepth 100000 in
theorem w0x120 : ((List.range' 120 2).all fun j => tal.atP j) = true := by kernel_rfl
set_option maxRecDepth 100000 in
theorem w0x130 : ((List.range' 130 2).all fun j => tal.atP j) = true := by kernel_rfl
set_option maxRecDepth 100000 in
theorem w0x140 : ((List.range' 140 2).all fun j => tal.atP j) = true := by kernel_rfl
set_option maxRecDepth 100000 in
theorem w0x150 : ((List.range' 150 2).all fun j => tal.atP j) = true := by kernel_rfl
set_option maxRecDepth 100000 in
theorem w0x160 : ((List.range' 160 2).all fun j => tal.atP j) = true := by kernel_rfl
set_option maxRecDepth 100000 in
theorem w0x170 : ((List.range' 170 2).all fun j => tal.atP j) = true := by kernel_rfl
set_option maxRecDepth 100000 in
theorem w0x180 : ((List.range' 180 2).all fun j => tal.atP j) = true := by kernel_rfl
set_option maxRecDepth 100000 in
theorem w0x190 : ((List.range' 190 2).all fun j => tal.atP j) = true := by kernel_rfl
set_option maxRecDepth 100000 in
theorem w0x200 : ((List.range' 200 2).all fun j => tal.atP j) = true := by kernel_rfl
set_option maxRecDepth 100000 in
theorem w0x210 : ((List.range' 210 2).all fun j => tal.atP j) = true := by kernel_rfl
set_option maxRecDepth 100000 in
theorem w0x220 : ((List.range' 220 2).all fun j => tal.atP j) = true := by kernel_rfl
set_option maxRecDepth 100000 in
theorem w0x230 : ((List.range' 230 2).all fun j => tal.atP j) = true := by kernel_rfl
set_option maxRecDepth 100000 in
theorem w0x240 : ((List.range' 240 2).all fun j => tal.atP j) = true := by kernel_rfl
set_option maxRecDepth 100000 in
theorem w0x250 : ((List.range' 250 2).all fun j => tal.atP j) = true := by kernel_rfl
set_option maxRecDepth 100000 in
theorem w0x260 : ((List.range' 260 2).all fun j => tal.atP j) = true := by kernel_rfl
set_option maxRecDepth 100000 in
theorem w0x270 : ((List.range' 270 2).all fun j => tal.atP j) = true := by kernel_rfl
set_option maxRecDepth 100000 in
theorem w0x280 : ((List.range' 280 2).all fun j => tal.atP j) = true := by kernel_rfl
set_option maxRecDepth 100000 in
theorem w0x290 : ((List.range' 290 2).all fun j => tal.atP j) = true := by kernel_rfl
set_option maxRecDepth 100000 in
theorem w0x300 : ((List.range' 300 2).all fun j => tal.atP j) = true := by kernel_rfl
set_option maxRecDepth 100000 in
theorem w0x310 : ((List.range' 310 2).all fun j => tal.atP j) = true := by kernel_rfl
set_option maxRecDepth 100000 in
theorem w0x320 : ((List.range' 320 2).all fun j => tal.atP j) = true := by kernel_rfl
set_option maxRecDepth 100000 in
theorem w0x330 : ((List.range' 330 2).all fun j => tal.atP j) = true := by kernel_rfl
set_option maxRecDepth 100000 in
theorem w0x340 : ((List.range' 340 2).all fun j => tal.atP j) = true := by kernel_rfl
set_option maxRecDepth 100000 in
theorem w0x350 : ((List.range' 350 2).all fun j => tal.atP j) = true := by kernel_rfl
set_option maxRecDepth 100000 in
theorem w0x360 : ((List.range' 360 2).all fun j => tal.atP j) = true := by kernel_rfl
set_option maxRecDepth 100000 in
theorem w0x370 : ((List.range' 370 2).all fun j => tal.atP j) = true := by kernel_rfl
set_option maxRecDepth 100000 in
theorem w0x380 : ((List.range' 380 2).all fun j => tal.atP j) = true := by kernel_rfl
set_option maxRecDepth 100000 in
theorem w0x390 : ((List.range' 390 2).all fun j => tal.atP j) = true := by kernel_rfl
set_option maxRecDepth 100000 in
theorem w0x400 : ((List.range' 400 2).all fun j => tal.atP j) = true := by kernel_rfl
set_option maxRecDepth 100000 in
theorem w0x410 : ((List.range' 410 2).all fun j => tal.atP j) = true := by kernel_rfl
set_option maxRecDepth 100000 in
theorem w0x420 : ((List.range' 420 2).all fun j => tal.atP j) = true := by kernel_rfl
set_option maxRecDepth 100000 in
theorem w0x430 : ((List.range' 430 2).all fun j => tal.atP j) = true := by kernel_rfl
set_option maxRecDepth 100000 in
theorem w0x440 : ((List.range' 440 2).all fun j => tal.atP j) = true := by kernel_rfl
set_option maxRecDepth 100000 in
theorem w0x450 : ((List.range' 450 2).all fun j => tal.atP j) = true := by kernel_rfl
end Go.Proofs.YtnpfihlaocpcfaaGreatDoor.tpd
