/- For the seat: texts joined: TpdP1. -/
import Derived.Test.YtnpfihlaocpcfaaGreatDoorJL1b
/- TpdP1: the program's decoder of two halfwords, walked at some cases of the input. -/
namespace Go.Proofs.YtnpfihlaocpcfaaGreatDoor.tpd
open Go.Sx
set_option maxRecDepth 100000
theorem w0x2 : ((List.range' 2 2).all fun j => tal.atP j) = true := by kernel_rfl
set_option maxRecDepth 100000 in
theorem w0x12 : ((List.range' 12 2).all fun j => tal.atP j) = true := by kernel_rfl
set_option maxRecDepth 100000 in
theorem w0x22 : ((List.range' 22 2).all fun j => tal.atP j) = true := by kernel_rfl
set_option maxRecDepth 100000 in
theorem w0x32 : ((List.range' 32 2).all fun j => tal.atP j) = true := by kernel_rfl
set_option maxRecDepth 100000 in
theorem w0x42 : ((List.range' 42 2).all fun j => tal.atP j) = true := by kernel_rfl
set_option maxRecDepth 100000 in
theorem w0x52 : ((List.range' 52 2).all fun j => tal.atP j) = true := by kernel_rfl
set_option maxRecDepth 100000 in
theorem w0x62 : ((List.range' 62 2).all fun j => tal.atP j) = true := by kernel_rfl
set_option maxRecDepth 100000 in
theorem w0x72 : ((List.range' 72 2).all fun j => tal.atP j) = true := by kernel_rfl
set_option maxRecDepth 100000 in
theorem w0x82 : ((List.range' 82 2).all fun j => tal.atP j) = true := by kernel_rfl
set_option maxRecDepth 100000 in
theorem w0x92 : ((List.range' 92 2).all fun j => tal.atP j) = true := by kernel_rfl
set_option maxRecDepth 100000 in
theorem w0x102 : ((List.range' 102 2).all fun j => tal.atP j) = true := by kernel_rfl
set_option maxRecDepth 100000 in
theorem w0x112 : ((List.range' 112 2).all fun j => tal.atP j) = true := by kernel_rfl
set_option maxRecDepth 100000 in
theorem w0x122 : ((List.range' 122 2).all fun j => tal.atP j) = true := by kernel_rfl
set_option maxRecDepth 100000 in
theorem w0x132 : ((List.range' 132 2).all fun j => tal.atP j) = true := by kernel_rfl
set_option maxRecDepth 100000 in
theorem w0x142 : ((List.range' 142 2).all fun j => tal.atP j) = true := by kernel_rfl
set_option maxRecDepth 100000 in
theorem w0x152 : ((List.range' 152 2).all fun j => tal.atP j) = true := by kernel_rfl
set_option maxRecDepth 100000 in
theorem w0x162 : ((List.range' 162 2).all fun j => tal.atP j) = true := by kernel_rfl
set_option maxRecDepth 100000 in
theorem w0x172 : ((List.range' 172 2).all fun j => tal.atP j) = true := by kernel_rfl
set_option maxRecDepth 100000 in
theorem w0x182 : ((List.range' 182 2).all fun j => tal.atP j) = true := by kernel_rfl
set_option maxRecDepth 100000 in
theorem w0x192 : ((List.range' 192 2).all fun j => tal.atP j) = true := by kernel_rfl
set_option maxRecDepth 100000 in
theorem w0x202 : ((List.range' 202 2).all fun j => tal.atP j) = true := by kernel_rfl
set_option maxRecDepth 100000 in
theorem w0x212 : ((List.range' 212 2).all fun j => tal.atP j) = true := by kernel_rfl
set_option maxRecDepth 100000 in
theorem w0x222 : ((List.range' 222 2).all fun j => tal.atP j) = true := by kernel_rfl
set_option maxRecDepth 100000 in
theorem w0x232 : ((List.range' 232 2).all fun j => tal.atP j) = true := by kernel_rfl
set_option maxRecDepth 100000 in
theorem w0x242 : ((List.range' 242 2).all fun j => tal.atP j) = true := by kernel_rfl
set_option maxRecDepth 100000 in
theorem w0x252 : ((List.range' 252 2).all fun j => tal.atP j) = true := by kernel_rfl
set_option maxRecDepth 100000 in
theorem w0x262 : ((List.range' 262 2).all fun j => tal.atP j) = true := by kernel_rfl
set_option maxRecDepth 100000 in
theorem w0x272 : ((List.range' 272 2).all fun j => tal.atP j) = true := by kernel_rfl
set_option maxRecDepth 100000 in
theorem w0x282 : ((List.range' 282 2).all fun j => tal.atP j) = true := by kernel_rfl
set_option maxRecDepth 100000 in
theorem w0x292 : ((List.range' 292 2).all fun j => tal.atP j) = true := by kernel_rfl
set_option maxRecDepth 100000 in
theorem w0x302 : ((List.range' 302 2).all fun j => tal.atP j) = true := by kernel_rfl
set_option maxRecDepth 100000 in
theorem w0x312 : ((List.range' 312 2).all fun j => tal.atP j) = true := by kernel_rfl
set_option maxRecDepth 100000 in
theorem w0x322 : ((List.range' 322 2).all fun j => tal.atP j) = true := by kernel_rfl
set_option maxRecDepth 100000 in
theorem w0x332 : ((List.range' 332 2).all fun j => tal.atP j) = true := by kernel_rfl
set_option maxRecDepth 100000 in
theorem w0x342 : ((List.range' 342 2).all fun j => tal.atP j) = true := by kernel_rfl
set_option maxRecDepth 100000 in
theorem w0x352 : ((List.range' 352 2).all fun j => tal.atP j) = true := by kernel_rfl
set_option maxRecDepth 100000 in
theorem w0x362 : ((List.range' 362 2).all fun j => tal.atP j) = true := by kernel_rfl
set_option maxRecDepth 100000 in
theorem w0x372 : ((List.range' 372 2).all fun j => tal.atP j) = true := by kernel_rfl
set_option maxRecDepth 100000 in
theorem w0x382 : ((List.range' 382 2).all fun j => tal.atP j) = true := by kernel_rfl
set_option maxRecDepth 100000 in
theorem w0x392 : ((List.range' 392 2).all fun j => tal.atP j) = true := by kernel_rfl
set_option maxRecDepth 100000 in
theorem w0x402 : ((List.range' 402 2).all fun j => tal.atP j) = true := by kernel_rfl
set_option maxRecDepth 100000 in
theorem w0x412 : ((List.range' 412 2).all fun j => tal.atP j) = true := by kernel_rfl
set_option maxRecDepth 100000 in
theorem w0x422 : ((List.range' 422 2).all fun j => tal.atP j) = true := by kernel_rfl
set_option maxRecDepth 100000 in
theorem w0x432 : ((List.range' 432 2).all fun j => tal.atP j) = true := by kernel_rfl
set_option maxRecDepth 100000 in
theorem w0x442 : ((List.range' 442 2).all fun j => tal.atP j) = true := by kernel_rfl
set_option maxRecDepth 100000 in
theorem w0x452 : ((List.range' 452 2).all fun j => tal.atP j) = true := by kernel_rfl
end Go.Proofs.YtnpfihlaocpcfaaGreatDoor.tpd
