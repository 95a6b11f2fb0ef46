/- TallBlocks: the walks at some cases of the input. -/
import Derived.Test.YtaiecnepchndkaaDoorTalDef
namespace Go.Proofs.YtaiecnepchndkaaDoor.tallBlocks
open Go.Sx
set_option maxRecDepth 100000
theorem w40 : ((List.range' 40 7).all fun j => tal.at2 13 j) = true := by kernel_rfl
theorem w77 : ((List.range' 77 8).all fun j => tal.at2 13 j) = true := by kernel_rfl
theorem w109 : ((List.range' 109 7).all fun j => tal.at2 13 j) = true := by kernel_rfl
theorem w116 : ((List.range' 116 8).all fun j => tal.at2 13 j) = true := by kernel_rfl
theorem w167 : ((List.range' 167 9).all fun j => tal.at2 13 j) = true := by kernel_rfl
theorem w201 : ((List.range' 201 9).all fun j => tal.at2 13 j) = true := by kernel_rfl
theorem w233 : ((List.range' 233 8).all fun j => tal.at2 13 j) = true := by kernel_rfl
theorem w266 : ((List.range' 266 9).all fun j => tal.at2 13 j) = true := by kernel_rfl
theorem w307 : ((List.range' 307 9).all fun j => tal.at2 13 j) = true := by kernel_rfl
theorem w333 : ((List.range' 333 3).all fun j => tal.at2 13 j) = true := by kernel_rfl
theorem w345 : ((List.range' 345 3).all fun j => tal.at2 13 j) = true := by kernel_rfl
theorem w357 : ((List.range' 357 3).all fun j => tal.at2 13 j) = true := by kernel_rfl
theorem w365 : ((List.range' 365 2).all fun j => tal.at2 13 j) = true := by kernel_rfl
theorem w371 : ((List.range' 371 3).all fun j => tal.at2 13 j) = true := by kernel_rfl
theorem w386 : ((List.range' 386 3).all fun j => tal.at2 13 j) = true := by kernel_rfl
theorem w394 : ((List.range' 394 5).all fun j => tal.at2 13 j) = true := by kernel_rfl
end Go.Proofs.YtaiecnepchndkaaDoor.tallBlocks
