/- For the seat: texts joined: TpdP5. -/
import Derived.Test.YtnpfihlaocpcfaaGreatDoorJL1b
/- TpdP5: the program's decoder of two halfwords, walked at some cases of the input. -/
namespace Go.Proofs.YtnpfihlaocpcfaaGreatDoor.tpd
open Go.Sx
set_option maxRecDepth 100000
theorem w0x224 : ((List.range' 224 2).all fun j => tal.atP j) = true := by kernel_rfl
set_option maxRecDepth 100000 in
theorem w0x234 : ((List.range' 234 2).all fun j => tal.atP j) = true := by kernel_rfl
set_option maxRecDepth 100000 in
theorem w0x244 : ((List.range' 244 2).all fun j => tal.atP j) = true := by kernel_rfl
set_option maxRecDepth 100000 in
theorem w0x254 : ((List.range' 254 2).all fun j => tal.atP j) = true := by kernel_rfl
set_option maxRecDepth 100000 in
theorem w0x264 : ((List.range' 264 2).all fun j => tal.atP j) = true := by kernel_rfl
set_option maxRecDepth 100000 in
theorem w0x274 : ((List.range' 274 2).all fun j => tal.atP j) = true := by kernel_rfl
set_option maxRecDepth 100000 in
theorem w0x284 : ((List.range' 284 2).all fun j => tal.atP j) = true := by kernel_rfl
set_option maxRecDepth 100000 in
theorem w0x294 : ((List.range' 294 2).all fun j => tal.atP j) = true := by kernel_rfl
set_option maxRecDepth 100000 in
theorem w0x304 : ((List.range' 304 2).all fun j => tal.atP j) = true := by kernel_rfl
set_option maxRecDepth 100000 in
theorem w0x314 : ((List.range' 314 2).all fun j => tal.atP j) = true := by kernel_rfl
set_option maxRecDepth 100000 in
theorem w0x324 : ((List.range' 324 2).all fun j => tal.atP j) = true := by kernel_rfl
set_option maxRecDepth 100000 in
theorem w0x334 : ((List.range' 334 2).all fun j => tal.atP j) = true := by kernel_rfl
set_option maxRecDepth 100000 in
theorem w0x344 : ((List.range' 344 2).all fun j => tal.atP j) = true := by kernel_rfl
set_option maxRecDepth 100000 in
theorem w0x354 : ((List.range' 354 2).all fun j => tal.atP j) = true := by kernel_rfl
set_option maxRecDepth 100000 in
theorem w0x364 : ((List.range' 364 2).all fun j => tal.atP j) = true := by kernel_rfl
set_option maxRecDepth 100000 in
theorem w0x374 : ((List.range' 374 2).all fun j => tal.atP j) = true := by kernel_rfl
set_option maxRecDepth 100000 in
theorem w0x384 : ((List.range' 384 2).all fun j => tal.atP j) = true := by kernel_rfl
set_option maxRecDepth 100000 in
theorem w0x394 : ((List.range' 394 2).all fun j => tal.atP j) = true := by kernel_rfl
set_option maxRecDepth 100000 in
theorem w0x404 : ((List.range' 404 2).all fun j => tal.atP j) = true := by kernel_rfl
set_option maxRecDepth 100000 in
theorem w0x414 : ((List.range' 414 2).all fun j => tal.atP j) = true := by kernel_rfl
set_option maxRecDepth 100000 in
theorem w0x424 : ((List.range' 424 2).all fun j => tal.atP j) = true := by kernel_rfl
set_option maxRecDepth 100000 in
theorem w0x434 : ((List.range' 434 2).all fun j => tal.atP j) = true := by kernel_rfl
set_option maxRecDepth 100000 in
theorem w0x444 : ((List.range' 444 2).all fun j => tal.atP j) = true := by kernel_rfl
noncomputable def at15 (i : Nat) : Bool := px2 (rd.tree Rd.widT cxs' widS 3000 38 tal.pat3 (.var 1) (Cb.bits 0 0xFFFF (0xE8B0 + i))) tal.knB
set_option maxRecDepth 100000 in
theorem v15x0 : at15 0 = true := by kernel_rfl
set_option maxRecDepth 100000 in
theorem v15x1 : at15 1 = true := by kernel_rfl
set_option maxRecDepth 100000 in
theorem v15x2 : at15 2 = true := by kernel_rfl
set_option maxRecDepth 100000 in
theorem v15x3 : at15 3 = true := by kernel_rfl
set_option maxRecDepth 100000 in
theorem v15x4 : at15 4 = true := by kernel_rfl
set_option maxRecDepth 100000 in
theorem v15x5 : at15 5 = true := by kernel_rfl
set_option maxRecDepth 100000 in
theorem v15x6 : at15 6 = true := by kernel_rfl
set_option maxRecDepth 100000 in
theorem v15x7 : at15 7 = true := by kernel_rfl
set_option maxRecDepth 100000 in
theorem v15x8 : at15 8 = true := by kernel_rfl
set_option maxRecDepth 100000 in
theorem v15x9 : at15 9 = true := by kernel_rfl
set_option maxRecDepth 100000 in
theorem v15x10 : at15 10 = true := by kernel_rfl
set_option maxRecDepth 100000 in
theorem v15x11 : at15 11 = true := by kernel_rfl
set_option maxRecDepth 100000 in
theorem v15x12 : at15 12 = true := by kernel_rfl
set_option maxRecDepth 100000 in
theorem v15x13 : at15 13 = true := by kernel_rfl
set_option maxRecDepth 100000 in
theorem v15x14 : at15 14 = true := by kernel_rfl
set_option maxRecDepth 100000 in
theorem v15x15 : at15 15 = true := by kernel_rfl
end Go.Proofs.YtnpfihlaocpcfaaGreatDoor.tpd
