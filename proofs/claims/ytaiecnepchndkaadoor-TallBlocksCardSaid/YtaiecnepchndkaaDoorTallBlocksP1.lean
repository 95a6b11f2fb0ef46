/- TallBlocks: the walks at some cases of the input. -/
import Derived.Test.YtaiecnepchndkaaDoorTalDef
namespace Go.Proofs.YtaiecnepchndkaaDoor.tallBlocks
open Go.Sx
set_option maxRecDepth 100000
theorem w21 : ((List.range' 21 19).all fun j => tal.at2 13 j) = true := by kernel_rfl
theorem w61 : ((List.range' 61 8).all fun j => tal.at2 13 j) = true := by kernel_rfl
theorem w93 : ((List.range' 93 8).all fun j => tal.at2 13 j) = true := by kernel_rfl
theorem w124 : ((List.range' 124 8).all fun j => tal.at2 13 j) = true := by kernel_rfl
theorem w149 : ((List.range' 149 9).all fun j => tal.at2 13 j) = true := by kernel_rfl
theorem w185 : ((List.range' 185 8).all fun j => tal.at2 13 j) = true := by kernel_rfl
theorem w218 : ((List.range' 218 8).all fun j => tal.at2 13 j) = true := by kernel_rfl
theorem w257 : ((List.range' 257 9).all fun j => tal.at2 13 j) = true := by kernel_rfl
theorem w291 : ((List.range' 291 8).all fun j => tal.at2 13 j) = true := by kernel_rfl
theorem w324 : ((List.range' 324 6).all fun j => tal.at2 13 j) = true := by kernel_rfl
theorem w336 : ((List.range' 336 3).all fun j => tal.at2 13 j) = true := by kernel_rfl
theorem w351 : ((List.range' 351 3).all fun j => tal.at2 13 j) = true := by kernel_rfl
theorem w361 : ((List.range' 361 2).all fun j => tal.at2 13 j) = true := by kernel_rfl
theorem w374 : ((List.range' 374 3).all fun j => tal.at2 13 j) = true := by kernel_rfl
theorem w383 : ((List.range' 383 3).all fun j => tal.at2 13 j) = true := by kernel_rfl
theorem w399 : ((List.range' 399 13).all fun j => tal.at2 13 j) = true := by kernel_rfl
end Go.Proofs.YtaiecnepchndkaaDoor.tallBlocks
