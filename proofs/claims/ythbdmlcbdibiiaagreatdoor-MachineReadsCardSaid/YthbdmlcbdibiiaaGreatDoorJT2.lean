/- For the seat: texts joined: TlaP3, TlaP4. -/
import Derived.Test.YthbdmlcbdibiiaaGreatDoorJD0
/- Tla: the walks at some cases of the input. -/
namespace Go.Proofs.YthbdmlcbdibiiaaGreatDoor.tla
open Go.Sx
set_option maxRecDepth 100000
theorem w0x197 : ((List.range' 197 1).all fun j => tal.at' j) = true := by kernel_rfl
set_option maxRecDepth 100000 in
theorem w0x287 : ((List.range' 287 1).all fun j => tal.at' j) = true := by kernel_rfl
set_option maxRecDepth 100000 in
theorem w0x62 : ((List.range' 62 1).all fun j => tal.at' j) = true := by kernel_rfl
set_option maxRecDepth 100000 in
theorem w0x233 : ((List.range' 233 1).all fun j => tal.at' j) = true := by kernel_rfl
set_option maxRecDepth 100000 in
theorem w0x175 : ((List.range' 175 13).all fun j => tal.at' j) = true := by kernel_rfl
set_option maxRecDepth 100000 in
theorem w0x378 : ((List.range' 378 6).all fun j => tal.at' j) = true := by kernel_rfl
set_option maxRecDepth 100000 in
theorem w0x72 : ((List.range' 72 6).all fun j => tal.at' j) = true := by kernel_rfl
set_option maxRecDepth 100000 in
theorem w0x323 : ((List.range' 323 8).all fun j => tal.at' j) = true := by kernel_rfl
set_option maxRecDepth 100000 in
theorem w0x306 : ((List.range' 306 17).all fun j => tal.at' j) = true := by kernel_rfl
set_option maxRecDepth 100000 in
theorem w0x390 : ((List.range' 390 4).all fun j => tal.at' j) = true := by kernel_rfl
set_option maxRecDepth 100000 in
theorem w0x63 : ((List.range' 63 8).all fun j => tal.at' j) = true := by kernel_rfl
set_option maxRecDepth 100000 in
theorem w0x45 : ((List.range' 45 8).all fun j => tal.at' j) = true := by kernel_rfl
set_option maxRecDepth 100000 in
theorem w0x297 : ((List.range' 297 8).all fun j => tal.at' j) = true := by kernel_rfl
end Go.Proofs.YthbdmlcbdibiiaaGreatDoor.tla
/- Tla: the walks at some cases of the input. -/
namespace Go.Proofs.YthbdmlcbdibiiaaGreatDoor.tla
open Go.Sx
set_option maxRecDepth 100000
theorem w0x53 : ((List.range' 53 1).all fun j => tal.at' j) = true := by kernel_rfl
set_option maxRecDepth 100000 in
theorem w0x125 : ((List.range' 125 1).all fun j => tal.at' j) = true := by kernel_rfl
set_option maxRecDepth 100000 in
theorem w0x224 : ((List.range' 224 1).all fun j => tal.at' j) = true := by kernel_rfl
set_option maxRecDepth 100000 in
theorem w0x296 : ((List.range' 296 1).all fun j => tal.at' j) = true := by kernel_rfl
set_option maxRecDepth 100000 in
theorem w0x160 : ((List.range' 160 15).all fun j => tal.at' j) = true := by kernel_rfl
set_option maxRecDepth 100000 in
theorem w0x401 : ((List.range' 401 7).all fun j => tal.at' j) = true := by kernel_rfl
set_option maxRecDepth 100000 in
theorem w0x347 : ((List.range' 347 6).all fun j => tal.at' j) = true := by kernel_rfl
set_option maxRecDepth 100000 in
theorem w0x394 : ((List.range' 394 4).all fun j => tal.at' j) = true := by kernel_rfl
set_option maxRecDepth 100000 in
theorem w0x408 : ((List.range' 408 6).all fun j => tal.at' j) = true := by kernel_rfl
set_option maxRecDepth 100000 in
theorem w0x16 : ((List.range' 16 28).all fun j => tal.at' j) = true := by kernel_rfl
set_option maxRecDepth 100000 in
theorem w0x269 : ((List.range' 269 9).all fun j => tal.at' j) = true := by kernel_rfl
set_option maxRecDepth 100000 in
theorem w0x243 : ((List.range' 243 8).all fun j => tal.at' j) = true := by kernel_rfl
set_option maxRecDepth 100000 in
theorem w0x0 : ((List.range' 0 14).all fun j => tal.at' j) = true := by kernel_rfl
end Go.Proofs.YthbdmlcbdibiiaaGreatDoor.tla
