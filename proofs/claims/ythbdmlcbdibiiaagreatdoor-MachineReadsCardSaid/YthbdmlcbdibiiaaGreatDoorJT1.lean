/- For the seat: texts joined: TlaP1, TlaP2. -/
import Derived.Test.YthbdmlcbdibiiaaGreatDoorJD0
/- Tla: the walks at some cases of the input. -/
namespace Go.Proofs.YthbdmlcbdibiiaaGreatDoor.tla
open Go.Sx
set_option maxRecDepth 100000
theorem w0x188 : ((List.range' 188 1).all fun j => tal.at' j) = true := by kernel_rfl
set_option maxRecDepth 100000 in
theorem w0x71 : ((List.range' 71 1).all fun j => tal.at' j) = true := by kernel_rfl
set_option maxRecDepth 100000 in
theorem w0x242 : ((List.range' 242 1).all fun j => tal.at' j) = true := by kernel_rfl
set_option maxRecDepth 100000 in
theorem w0x15 : ((List.range' 15 1).all fun j => tal.at' j) = true := by kernel_rfl
set_option maxRecDepth 100000 in
theorem w0x143 : ((List.range' 143 17).all fun j => tal.at' j) = true := by kernel_rfl
set_option maxRecDepth 100000 in
theorem w0x371 : ((List.range' 371 7).all fun j => tal.at' j) = true := by kernel_rfl
set_option maxRecDepth 100000 in
theorem w0x353 : ((List.range' 353 6).all fun j => tal.at' j) = true := by kernel_rfl
set_option maxRecDepth 100000 in
theorem w0x341 : ((List.range' 341 6).all fun j => tal.at' j) = true := by kernel_rfl
set_option maxRecDepth 100000 in
theorem w0x252 : ((List.range' 252 17).all fun j => tal.at' j) = true := by kernel_rfl
set_option maxRecDepth 100000 in
theorem w0x398 : ((List.range' 398 3).all fun j => tal.at' j) = true := by kernel_rfl
set_option maxRecDepth 100000 in
theorem w0x414 : ((List.range' 414 5).all fun j => tal.at' j) = true := by kernel_rfl
set_option maxRecDepth 100000 in
theorem w0x117 : ((List.range' 117 8).all fun j => tal.at' j) = true := by kernel_rfl
set_option maxRecDepth 100000 in
theorem w0x54 : ((List.range' 54 8).all fun j => tal.at' j) = true := by kernel_rfl
end Go.Proofs.YthbdmlcbdibiiaaGreatDoor.tla
/- Tla: the walks at some cases of the input. -/
namespace Go.Proofs.YthbdmlcbdibiiaaGreatDoor.tla
open Go.Sx
set_option maxRecDepth 100000
theorem w0x89 : ((List.range' 89 1).all fun j => tal.at' j) = true := by kernel_rfl
set_option maxRecDepth 100000 in
theorem w0x305 : ((List.range' 305 1).all fun j => tal.at' j) = true := by kernel_rfl
set_option maxRecDepth 100000 in
theorem w0x116 : ((List.range' 116 1).all fun j => tal.at' j) = true := by kernel_rfl
set_option maxRecDepth 100000 in
theorem w0x251 : ((List.range' 251 1).all fun j => tal.at' j) = true := by kernel_rfl
set_option maxRecDepth 100000 in
theorem w0x90 : ((List.range' 90 17).all fun j => tal.at' j) = true := by kernel_rfl
set_option maxRecDepth 100000 in
theorem w0x384 : ((List.range' 384 6).all fun j => tal.at' j) = true := by kernel_rfl
set_option maxRecDepth 100000 in
theorem w0x331 : ((List.range' 331 4).all fun j => tal.at' j) = true := by kernel_rfl
set_option maxRecDepth 100000 in
theorem w0x198 : ((List.range' 198 17).all fun j => tal.at' j) = true := by kernel_rfl
set_option maxRecDepth 100000 in
theorem w0x126 : ((List.range' 126 17).all fun j => tal.at' j) = true := by kernel_rfl
set_option maxRecDepth 100000 in
theorem w0x107 : ((List.range' 107 9).all fun j => tal.at' j) = true := by kernel_rfl
set_option maxRecDepth 100000 in
theorem w0x189 : ((List.range' 189 8).all fun j => tal.at' j) = true := by kernel_rfl
set_option maxRecDepth 100000 in
theorem w0x225 : ((List.range' 225 8).all fun j => tal.at' j) = true := by kernel_rfl
set_option maxRecDepth 100000 in
theorem w0x288 : ((List.range' 288 8).all fun j => tal.at' j) = true := by kernel_rfl
end Go.Proofs.YthbdmlcbdibiiaaGreatDoor.tla
