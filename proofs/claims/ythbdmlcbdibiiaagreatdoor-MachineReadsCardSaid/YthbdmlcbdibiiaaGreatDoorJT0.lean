/- For the seat: texts joined: ShaP0, ShaP1, TlaP0. -/
import Derived.Test.YthbdmlcbdibiiaaGreatDoorJD0
/- Sha: the walks at some cases of the input. -/
namespace Go.Proofs.YthbdmlcbdibiiaaGreatDoor.sha
open Go.Sx
set_option maxRecDepth 100000
theorem w0x0 : ((List.range' 0 20).all fun j => sho.at' j) = true := by kernel_rfl
set_option maxRecDepth 100000 in
theorem w0x20 : ((List.range' 20 24).all fun j => sho.at' j) = true := by kernel_rfl
set_option maxRecDepth 100000 in
theorem w0x90 : ((List.range' 90 4).all fun j => sho.at' j) = true := by kernel_rfl
end Go.Proofs.YthbdmlcbdibiiaaGreatDoor.sha
/- Sha: the walks at some cases of the input. -/
namespace Go.Proofs.YthbdmlcbdibiiaaGreatDoor.sha
open Go.Sx
set_option maxRecDepth 100000
theorem w0x64 : ((List.range' 64 21).all fun j => sho.at' j) = true := by kernel_rfl
set_option maxRecDepth 100000 in
theorem w0x44 : ((List.range' 44 20).all fun j => sho.at' j) = true := by kernel_rfl
set_option maxRecDepth 100000 in
theorem w0x85 : ((List.range' 85 5).all fun j => sho.at' j) = true := by kernel_rfl
end Go.Proofs.YthbdmlcbdibiiaaGreatDoor.sha
/- Tla: the walks at some cases of the input. -/
namespace Go.Proofs.YthbdmlcbdibiiaaGreatDoor.tla
open Go.Sx
set_option maxRecDepth 100000
theorem w0x80 : ((List.range' 80 1).all fun j => tal.at' j) = true := by kernel_rfl
set_option maxRecDepth 100000 in
theorem w0x44 : ((List.range' 44 1).all fun j => tal.at' j) = true := by kernel_rfl
set_option maxRecDepth 100000 in
theorem w0x278 : ((List.range' 278 1).all fun j => tal.at' j) = true := by kernel_rfl
set_option maxRecDepth 100000 in
theorem w0x14 : ((List.range' 14 1).all fun j => tal.at' j) = true := by kernel_rfl
set_option maxRecDepth 100000 in
theorem w0x361 : ((List.range' 361 5).all fun j => tal.at' j) = true := by kernel_rfl
set_option maxRecDepth 100000 in
theorem w0x81 : ((List.range' 81 8).all fun j => tal.at' j) = true := by kernel_rfl
set_option maxRecDepth 100000 in
theorem w0x335 : ((List.range' 335 6).all fun j => tal.at' j) = true := by kernel_rfl
set_option maxRecDepth 100000 in
theorem w0x366 : ((List.range' 366 5).all fun j => tal.at' j) = true := by kernel_rfl
set_option maxRecDepth 100000 in
theorem w0x359 : ((List.range' 359 2).all fun j => tal.at' j) = true := by kernel_rfl
set_option maxRecDepth 100000 in
theorem w0x215 : ((List.range' 215 9).all fun j => tal.at' j) = true := by kernel_rfl
set_option maxRecDepth 100000 in
theorem w0x279 : ((List.range' 279 8).all fun j => tal.at' j) = true := by kernel_rfl
set_option maxRecDepth 100000 in
theorem w0x234 : ((List.range' 234 8).all fun j => tal.at' j) = true := by kernel_rfl
set_option maxRecDepth 100000 in
theorem w0x78 : ((List.range' 78 2).all fun j => tal.at' j) = true := by kernel_rfl
end Go.Proofs.YthbdmlcbdibiiaaGreatDoor.tla
