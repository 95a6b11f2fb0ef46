/- For the seat: texts joined: TpdP4. -/
import Derived.Test.YtnpfihlaocpcfaaGreatDoorJL1b
/- TpdP4: the program's decoder of two halfwords, walked at some cases of the input. -/
namespace Go.Proofs.YtnpfihlaocpcfaaGreatDoor.tpd
open Go.Sx
set_option maxRecDepth 100000
theorem w0x8 : ((List.range' 8 2).all fun j => tal.atP j) = true := by kernel_rfl
set_option maxRecDepth 100000 in
theorem w0x18 : ((List.range' 18 2).all fun j => tal.atP j) = true := by kernel_rfl
set_option maxRecDepth 100000 in
theorem w0x28 : ((List.range' 28 2).all fun j => tal.atP j) = true := by kernel_rfl
set_option maxRecDepth 100000 in
theorem w0x38 : ((List.range' 38 2).all fun j => tal.atP j) = true := by kernel_rfl
set_option maxRecDepth 100000 in
theorem w0x48 : ((List.range' 48 2).all fun j => tal.atP j) = true := by kernel_rfl
set_option maxRecDepth 100000 in
theorem w0x58 : ((List.range' 58 2).all fun j => tal.atP j) = true := by kernel_rfl
set_option maxRecDepth 100000 in
theorem w0x68 : ((List.range' 68 2).all fun j => tal.atP j) = true := by kernel_rfl
set_option maxRecDepth 100000 in
theorem w0x78 : ((List.range' 78 2).all fun j => tal.atP j) = true := by kernel_rfl
set_option maxRecDepth 100000 in
theorem w0x88 : ((List.range' 88 2).all fun j => tal.atP j) = true := by kernel_rfl
set_option maxRecDepth 100000 in
theorem w0x98 : ((List.range' 98 2).all fun j => tal.atP j) = true := by kernel_rfl
set_option maxRecDepth 100000 in
theorem w0x108 : ((List.range' 108 2).all fun j => tal.atP j) = true := by kernel_rfl
set_option maxRecDepth 100000 in
theorem w0x118 : ((List.range' 118 2).all fun j => tal.atP j) = true := by kernel_rfl
set_option maxRecDepth 100000 in
theorem w0x128 : ((List.range' 128 2).all fun j => tal.atP j) = true := by kernel_rfl
set_option maxRecDepth 100000 in
theorem w0x138 : ((List.range' 138 2).all fun j => tal.atP j) = true := by kernel_rfl
set_option maxRecDepth 100000 in
theorem w0x148 : ((List.range' 148 2).all fun j => tal.atP j) = true := by kernel_rfl
set_option maxRecDepth 100000 in
theorem w0x158 : ((List.range' 158 2).all fun j => tal.atP j) = true := by kernel_rfl
set_option maxRecDepth 100000 in
theorem w0x168 : ((List.range' 168 2).all fun j => tal.atP j) = true := by kernel_rfl
set_option maxRecDepth 100000 in
theorem w0x178 : ((List.range' 178 2).all fun j => tal.atP j) = true := by kernel_rfl
set_option maxRecDepth 100000 in
theorem w0x188 : ((List.range' 188 2).all fun j => tal.atP j) = true := by kernel_rfl
set_option maxRecDepth 100000 in
theorem w0x198 : ((List.range' 198 2).all fun j => tal.atP j) = true := by kernel_rfl
set_option maxRecDepth 100000 in
theorem w0x208 : ((List.range' 208 2).all fun j => tal.atP j) = true := by kernel_rfl
set_option maxRecDepth 100000 in
theorem w0x218 : ((List.range' 218 2).all fun j => tal.atP j) = true := by kernel_rfl
set_option maxRecDepth 100000 in
theorem w0x228 : ((List.range' 228 2).all fun j => tal.atP j) = true := by kernel_rfl
set_option maxRecDepth 100000 in
theorem w0x238 : ((List.range' 238 2).all fun j => tal.atP j) = true := by kernel_rfl
set_option maxRecDepth 100000 in
theorem w0x248 : ((List.range' 248 2).all fun j => tal.atP j) = true := by kernel_rfl
set_option maxRecDepth 100000 in
theorem w0x258 : ((List.range' 258 2).all fun j => tal.atP j) = true := by kernel_rfl
set_option maxRecDepth 100000 in
theorem w0x268 : ((List.range' 268 2).all fun j => tal.atP j) = true := by kernel_rfl
set_option maxRecDepth 100000 in
theorem w0x278 : ((List.range' 278 2).all fun j => tal.atP j) = true := by kernel_rfl
set_option maxRecDepth 100000 in
theorem w0x288 : ((List.range' 288 2).all fun j => tal.atP j) = true := by kernel_rfl
set_option maxRecDepth 100000 in
theorem w0x298 : ((List.range' 298 2).all fun j => tal.atP j) = true := by kernel_rfl
set_option maxRecDepth 100000 in
theorem w0x308 : ((List.range' 308 2).all fun j => tal.atP j) = true := by kernel_rfl
set_option maxRecDepth 100000 in
theorem w0x318 : ((List.range' 318 2).all fun j => tal.atP j) = true := by kernel_rfl
set_option maxRecDepth 100000 in
theorem w0x328 : ((List.range' 328 2).all fun j => tal.atP j) = true := by kernel_rfl
set_option maxRecDepth 100000 in
theorem w0x338 : ((List.range' 338 2).all fun j => tal.atP j) = true := by kernel_rfl
set_option maxRecDepth 100000 in
theorem w0x348 : ((List.range' 348 2).all fun j => tal.atP j) = true := by kernel_rfl
set_option maxRecDepth 100000 in
theorem w0x358 : ((List.range' 358 2).all fun j => tal.atP j) = true := by kernel_rfl
set_option maxRecDepth 100000 in
theorem w0x368 : ((List.range' 368 2).all fun j => tal.atP j) = true := by kernel_rfl
set_option maxRecDepth 100000 in
theorem w0x378 : ((List.range' 378 2).all fun j => tal.atP j) = true := by kernel_rfl
set_option maxRecDepth 100000 in
theorem w0x388 : ((List.range' 388 2).all fun j => tal.atP j) = true := by kernel_rfl
set_option maxRecDepth 100000 in
theorem w0x398 : ((List.range' 398 2).all fun j => tal.atP j) = true := by kernel_rfl
set_option maxRecDepth 100000 in
theorem w0x408 : ((List.range' 408 2).all fun j => tal.atP j) = true := by kernel_rfl
set_option maxRecDepth 100000 in
theorem w0x418 : ((List.range' 418 2).all fun j => tal.atP j) = true := by kernel_rfl
set_option maxRecDepth 100000 in
theorem w0x428 : ((List.range' 428 2).all fun j => tal.atP j) = true := by kernel_rfl
set_option maxRecDepth 100000 in
theorem w0x438 : ((List.range' 438 2).all fun j => tal.atP j) = true := by kernel_rfl
set_option maxRecDepth 100000 in
theorem w0x448 : ((List.range' 448 2).all fun j => tal.atP j) = true := by kernel_rfl
end Go.Proofs.YtnpfihlaocpcfaaGreatDoor.tpd
