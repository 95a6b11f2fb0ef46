/- For the seat: texts joined: TpdP3. -/
import Derived.Test.YtnpfihlaocpcfaaGreatDoorJL1b
/- TpdP3: the program's decoder of two halfwords, walked at some cases of the input. -/
namespace Go.Proofs.YtnpfihlaocpcfaaGreatDoor.tpd
open Go.Sx
set_option maxRecDepth 100000
theorem w0x6 : ((List.range' 6 2).all fun j => tal.atP j) = true := by kernel_rfl
set_option maxRecDepth 100000 in
theorem w0x16 : ((List.range' 16 2).all fun j => tal.atP j) = true := by kernel_rfl
set_option maxRecDepth 100000 in
theorem w0x26 : ((List.range' 26 2).all fun j => tal.atP j) = true := by kernel_rfl
set_option maxRecDepth 100000 in
theorem w0x36 : ((List.range' 36 2).all fun j => tal.atP j) = true := by kernel_rfl
set_option maxRecDepth 100000 in
theorem w0x46 : ((List.range' 46 2).all fun j => tal.atP j) = true := by kernel_rfl
set_option maxRecDepth 100000 in
theorem w0x56 : ((List.range' 56 2).all fun j => tal.atP j) = true := by kernel_rfl
set_option maxRecDepth 100000 in
theorem w0x66 : ((List.range' 66 2).all fun j => tal.atP j) = true := by kernel_rfl
set_option maxRecDepth 100000 in
theorem w0x76 : ((List.range' 76 2).all fun j => tal.atP j) = true := by kernel_rfl
set_option maxRecDepth 100000 in
theorem w0x86 : ((List.range' 86 2).all fun j => tal.atP j) = true := by kernel_rfl
set_option maxRecDepth 100000 in
theorem w0x96 : ((List.range' 96 2).all fun j => tal.atP j) = true := by kernel_rfl
set_option maxRecDepth 100000 in
theorem w0x106 : ((List.range' 106 2).all fun j => tal.atP j) = true := by kernel_rfl
set_option maxRecDepth 100000 in
theorem w0x116 : ((List.range' 116 2).all fun j => tal.atP j) = true := by kernel_rfl
set_option maxRecDepth 100000 in
theorem w0x126 : ((List.range' 126 2).all fun j => tal.atP j) = true := by kernel_rfl
set_option maxRecDepth 100000 in
theorem w0x136 : ((List.range' 136 2).all fun j => tal.atP j) = true := by kernel_rfl
set_option maxRecDepth 100000 in
theorem w0x146 : ((List.range' 146 2).all fun j => tal.atP j) = true := by kernel_rfl
set_option maxRecDepth 100000 in
theorem w0x156 : ((List.range' 156 2).all fun j => tal.atP j) = true := by kernel_rfl
set_option maxRecDepth 100000 in
theorem w0x166 : ((List.range' 166 2).all fun j => tal.atP j) = true := by kernel_rfl
set_option maxRecDepth 100000 in
theorem w0x176 : ((List.range' 176 2).all fun j => tal.atP j) = true := by kernel_rfl
set_option maxRecDepth 100000 in
theorem w0x186 : ((List.range' 186 2).all fun j => tal.atP j) = true := by kernel_rfl
set_option maxRecDepth 100000 in
theorem w0x196 : ((List.range' 196 2).all fun j => tal.atP j) = true := by kernel_rfl
set_option maxRecDepth 100000 in
theorem w0x206 : ((List.range' 206 2).all fun j => tal.atP j) = true := by kernel_rfl
set_option maxRecDepth 100000 in
theorem w0x216 : ((List.range' 216 2).all fun j => tal.atP j) = true := by kernel_rfl
set_option maxRecDepth 100000 in
theorem w0x226 : ((List.range' 226 2).all fun j => tal.atP j) = true := by kernel_rfl
set_option maxRecDepth 100000 in
theorem w0x236 : ((List.range' 236 2).all fun j => tal.atP j) = true := by kernel_rfl
set_option maxRecDepth 100000 in
theorem w0x246 : ((List.range' 246 2).all fun j => tal.atP j) = true := by kernel_rfl
set_option maxRecDepth 100000 in
theorem w0x256 : ((List.range' 256 2).all fun j => tal.atP j) = true := by kernel_rfl
set_option maxRecDepth 100000 in
theorem w0x266 : ((List.range' 266 2).all fun j => tal.atP j) = true := by kernel_rfl
set_option maxRecDepth 100000 in
theorem w0x276 : ((List.range' 276 2).all fun j => tal.atP j) = true := by kernel_rfl
set_option maxRecDepth 100000 in
theorem w0x286 : ((List.range' 286 2).all fun j => tal.atP j) = true := by kernel_rfl
set_option maxRecDepth 100000 in
theorem w0x296 : ((List.range' 296 2).all fun j => tal.atP j) = true := by kernel_rfl
set_option maxRecDepth 100000 in
theorem w0x306 : ((List.range' 306 2).all fun j => tal.atP j) = true := by kernel_rfl
set_option maxRecDepth 100000 in
theorem w0x316 : ((List.range' 316 2).all fun j => tal.atP j) = true := by kernel_rfl
set_option maxRecDepth 100000 in
theorem w0x326 : ((List.range' 326 2).all fun j => tal.atP j) = true := by kernel_rfl
set_option maxRecDepth 100000 in
theorem w0x336 : ((List.range' 336 2).all fun j => tal.atP j) = true := by kernel_rfl
set_option maxRecDepth 100000 in
theorem w0x346 : ((List.range' 346 2).all fun j => tal.atP j) = true := by kernel_rfl
set_option maxRecDepth 100000 in
theorem w0x356 : ((List.range' 356 2).all fun j => tal.atP j) = true := by kernel_rfl
set_option maxRecDepth 100000 in
theorem w0x366 : ((List.range' 366 2).all fun j => tal.atP j) = true := by kernel_rfl
set_option maxRecDepth 100000 in
theorem w0x376 : ((List.range' 376 2).all fun j => tal.atP j) = true := by kernel_rfl
set_option maxRecDepth 100000 in
theorem w0x386 : ((List.range' 386 2).all fun j => tal.atP j) = true := by kernel_rfl
set_option maxRecDepth 100000 in
theorem w0x396 : ((List.range' 396 2).all fun j => tal.atP j) = true := by kernel_rfl
set_option maxRecDepth 100000 in
theorem w0x406 : ((List.range' 406 2).all fun j => tal.atP j) = true := by kernel_rfl
set_option maxRecDepth 100000 in
theorem w0x416 : ((List.range' 416 2).all fun j => tal.atP j) = true := by kernel_rfl
set_option maxRecDepth 100000 in
theorem w0x426 : ((List.range' 426 2).all fun j => tal.atP j) = true := by kernel_rfl
set_option maxRecDepth 100000 in
theorem w0x436 : ((List.range' 436 2).all fun j => tal.atP j) = true := by kernel_rfl
set_option maxRecDepth 100000 in
theorem w0x446 : ((List.range' 446 2).all fun j => tal.atP j) = true := by kernel_rfl
end Go.Proofs.YtnpfihlaocpcfaaGreatDoor.tpd
