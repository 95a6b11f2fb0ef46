/- For the seat: texts joined: TpdP2. -/
import Derived.Test.YtnpfihlaocpcfaaGreatDoorJL1b
/- TpdP2: the program's decoder of two halfwords, walked at some cases of the input. -/
namespace Go.Proofs.YtnpfihlaocpcfaaGreatDoor.tpd
open Go.Sx
set_option maxRecDepth 100000
theorem w0x14 : ((List.range' 14 1).all fun j => tal.atP j) = true := by kernel_rfl
set_option maxRecDepth 100000 in
theorem w0x4 : ((List.range' 4 2).all fun j => tal.atP j) = true := by kernel_rfl
set_option maxRecDepth 100000 in
theorem w0x24 : ((List.range' 24 2).all fun j => tal.atP j) = true := by kernel_rfl
set_option maxRecDepth 100000 in
theorem w0x34 : ((List.range' 34 2).all fun j => tal.atP j) = true := by kernel_rfl
set_option maxRecDepth 100000 in
theorem w0x44 : ((List.range' 44 2).all fun j => tal.atP j) = true := by kernel_rfl
set_option maxRecDepth 100000 in
theorem w0x54 : ((List.range' 54 2).all fun j => tal.atP j) = true := by kernel_rfl
set_option maxRecDepth 100000 in
theorem w0x64 : ((List.range' 64 2).all fun j => tal.atP j) = true := by kernel_rfl
set_option maxRecDepth 100000 in
theorem w0x74 : ((List.range' 74 2).all fun j => tal.atP j) = true := by kernel_rfl
set_option maxRecDepth 100000 in
theorem w0x84 : ((List.range' 84 2).all fun j => tal.atP j) = true := by kernel_rfl
set_option maxRecDepth 100000 in
theorem w0x94 : ((List.range' 94 2).all fun j => tal.atP j) = true := by kernel_rfl
set_option maxRecDepth 100000 in
theorem w0x104 : ((List.range' 104 2).all fun j => tal.atP j) = true := by kernel_rfl
set_option maxRecDepth 100000 in
theorem w0x114 : ((List.range' 114 2).all fun j => tal.atP j) = true := by kernel_rfl
set_option maxRecDepth 100000 in
theorem w0x124 : ((List.range' 124 2).all fun j => tal.atP j) = true := by kernel_rfl
set_option maxRecDepth 100000 in
theorem w0x134 : ((List.range' 134 2).all fun j => tal.atP j) = true := by kernel_rfl
set_option maxRecDepth 100000 in
theorem w0x144 : ((List.range' 144 2).all fun j => tal.atP j) = true := by kernel_rfl
set_option maxRecDepth 100000 in
theorem w0x154 : ((List.range' 154 2).all fun j => tal.atP j) = true := by kernel_rfl
set_option maxRecDepth 100000 in
theorem w0x164 : ((List.range' 164 2).all fun j => tal.atP j) = true := by kernel_rfl
set_option maxRecDepth 100000 in
theorem w0x174 : ((List.range' 174 2).all fun j => tal.atP j) = true := by kernel_rfl
set_option maxRecDepth 100000 in
theorem w0x184 : ((List.range' 184 2).all fun j => tal.atP j) = true := by kernel_rfl
set_option maxRecDepth 100000 in
theorem w0x194 : ((List.range' 194 2).all fun j => tal.atP j) = true := by kernel_rfl
set_option maxRecDepth 100000 in
theorem w0x204 : ((List.range' 204 2).all fun j => tal.atP j) = true := by kernel_rfl
set_option maxRecDepth 100000 in
theorem w0x214 : ((List.range' 214 2).all fun j => tal.atP j) = true := by kernel_rfl
end Go.Proofs.YtnpfihlaocpcfaaGreatDoor.tpd
