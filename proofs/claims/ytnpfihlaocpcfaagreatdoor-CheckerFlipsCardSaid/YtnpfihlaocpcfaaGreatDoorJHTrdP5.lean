/- For the seat: texts joined: TrdP5. -/
import Derived.Test.YtnpfihlaocpcfaaGreatDoorJL1b
/- TrdP5: the reference's decoder of two halfwords, walked at some cases of the input. -/
namespace Go.Proofs.YtnpfihlaocpcfaaGreatDoor.trd
open Go.Sx
set_option maxRecDepth 100000
theorem w0x5 : ((List.range' 5 1).all fun j => tal.atRP j) = true := by kernel_rfl
set_option maxRecDepth 100000 in
theorem w0x14 : ((List.range' 14 1).all fun j => tal.atRP j) = true := by kernel_rfl
set_option maxRecDepth 100000 in
theorem w0x23 : ((List.range' 23 1).all fun j => tal.atRP j) = true := by kernel_rfl
set_option maxRecDepth 100000 in
theorem w0x32 : ((List.range' 32 1).all fun j => tal.atRP j) = true := by kernel_rfl
set_option maxRecDepth 100000 in
theorem w0x41 : ((List.range' 41 1).all fun j => tal.atRP j) = true := by kernel_rfl
set_option maxRecDepth 100000 in
theorem w0x50 : ((List.range' 50 1).all fun j => tal.atRP j) = true := by kernel_rfl
set_option maxRecDepth 100000 in
theorem w0x59 : ((List.range' 59 1).all fun j => tal.atRP j) = true := by kernel_rfl
set_option maxRecDepth 100000 in
theorem w0x68 : ((List.range' 68 1).all fun j => tal.atRP j) = true := by kernel_rfl
set_option maxRecDepth 100000 in
theorem w0x77 : ((List.range' 77 1).all fun j => tal.atRP j) = true := by kernel_rfl
set_option maxRecDepth 100000 in
theorem w0x86 : ((List.range' 86 1).all fun j => tal.atRP j) = true := by kernel_rfl
set_option maxRecDepth 100000 in
theorem w0x95 : ((List.range' 95 1).all fun j => tal.atRP j) = true := by kernel_rfl
set_option maxRecDepth 100000 in
theorem w0x104 : ((List.range' 104 1).all fun j => tal.atRP j) = true := by kernel_rfl
set_option maxRecDepth 100000 in
theorem w0x113 : ((List.range' 113 1).all fun j => tal.atRP j) = true := by kernel_rfl
set_option maxRecDepth 100000 in
theorem w0x122 : ((List.range' 122 1).all fun j => tal.atRP j) = true := by kernel_rfl
set_option maxRecDepth 100000 in
theorem w0x131 : ((List.range' 131 1).all fun j => tal.atRP j) = true := by kernel_rfl
set_option maxRecDepth 100000 in
theorem w0x140 : ((List.range' 140 1).all fun j => tal.atRP j) = true := by kernel_rfl
set_option maxRecDepth 100000 in
theorem w0x149 : ((List.range' 149 1).all fun j => tal.atRP j) = true := by kernel_rfl
set_option maxRecDepth 100000 in
theorem w0x158 : ((List.range' 158 1).all fun j => tal.atRP j) = true := by kernel_rfl
set_option maxRecDepth 100000 in
theorem w0x167 : ((List.range' 167 1).all fun j => tal.atRP j) = true := by kernel_rfl
set_option maxRecDepth 100000 in
theorem w0x176 : ((List.range' 176 1).all fun j => tal.atRP j) = true := by kernel_rfl
set_option maxRecDepth 100000 in
theorem w0x185 : ((List.range' 185 1).all fun j => tal.atRP j) = true := by kernel_rfl
set_option maxRecDepth 100000 in
theorem w0x194 : ((List.range' 194 1).all fun j => tal.atRP j) = true := by kernel_rfl
set_option maxRecDepth 100000 in
theorem w0x203 : ((List.range' 203 1).all fun j => tal.atRP j) = true := by kernel_rfl
set_option maxRecDepth 100000 in
theorem w0x212 : ((List.range' 212 1).all fun j => tal.atRP j) = true := by kernel_rfl
set_option maxRecDepth 100000 in
theorem w0x221 : ((List.range' 221 1).all fun j => tal.atRP j) = true := by kernel_rfl
set_option maxRecDepth 100000 in
theorem w0x230 : ((List.range' 230 1).all fun j => tal.atRP j) = true := by kernel_rfl
set_option maxRecDepth 100000 in
theorem w0x239 : ((List.range' 239 1).all fun j => tal.atRP j) = true := by kernel_rfl
set_option maxRecDepth 100000 in
theorem w0x248 : ((List.range' 248 1).all fun j => tal.atRP j) = true := by kernel_rfl
set_option maxRecDepth 100000 in
theorem w0x257 : ((List.range' 257 1).all fun j => tal.atRP j) = true := by kernel_rfl
set_option maxRecDepth 100000 in
theorem w0x266 : ((List.range' 266 1).all fun j => tal.atRP j) = true := by kernel_rfl
set_option maxRecDepth 100000 in
theorem w0x275 : ((List.range' 275 1).all fun j => tal.atRP j) = true := by kernel_rfl
set_option maxRecDepth 100000 in
theorem w0x284 : ((List.range' 284 1).all fun j => tal.atRP j) = true := by kernel_rfl
set_option maxRecDepth 100000 in
theorem w0x293 : ((List.range' 293 1).all fun j => tal.atRP j) = true := by kernel_rfl
set_option maxRecDepth 100000 in
theorem w0x302 : ((List.range' 302 1).all fun j => tal.atRP j) = true := by kernel_rfl
set_option maxRecDepth 100000 in
theorem w0x311 : ((List.range' 311 1).all fun j => tal.atRP j) = true := by kernel_rfl
set_option maxRecDepth 100000 in
theorem w0x320 : ((List.range' 320 1).all fun j => tal.atRP j) = true := by kernel_rfl
set_option maxRecDepth 100000 in
theorem w0x329 : ((List.range' 329 1).all fun j => tal.atRP j) = true := by kernel_rfl
set_option maxRecDepth 100000 in
theorem w0x338 : ((List.range' 338 1).all fun j => tal.atRP j) = true := by kernel_rfl
set_option maxRecDepth 100000 in
theorem w0x347 : ((List.range' 347 1).all fun j => tal.atRP j) = true := by kernel_rfl
set_option maxRecDepth 100000 in
theorem w0x356 : ((List.range' 356 1).all fun j => tal.atRP j) = true := by kernel_rfl
end Go.Proofs.YtnpfihlaocpcfaaGreatDoor.trd
