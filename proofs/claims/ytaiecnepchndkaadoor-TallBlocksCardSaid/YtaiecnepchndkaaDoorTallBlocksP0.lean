/- TallBlocks: the walks at some cases of the input. -/
import Derived.Test.YtaiecnepchndkaaDoorTalDef
namespace Go.Proofs.YtaiecnepchndkaaDoor.tallBlocks
open Go.Sx
set_option maxRecDepth 100000
theorem w0 : ((List.range' 0 21).all fun j => tal.at2 13 j) = true := by kernel_rfl
theorem w69 : ((List.range' 69 8).all fun j => tal.at2 13 j) = true := by kernel_rfl
theorem w101 : ((List.range' 101 8).all fun j => tal.at2 13 j) = true := by kernel_rfl
theorem w140 : ((List.range' 140 9).all fun j => tal.at2 13 j) = true := by kernel_rfl
theorem w176 : ((List.range' 176 9).all fun j => tal.at2 13 j) = true := by kernel_rfl
theorem w210 : ((List.range' 210 8).all fun j => tal.at2 13 j) = true := by kernel_rfl
theorem w241 : ((List.range' 241 8).all fun j => tal.at2 13 j) = true := by kernel_rfl
theorem w275 : ((List.range' 275 8).all fun j => tal.at2 13 j) = true := by kernel_rfl
theorem w299 : ((List.range' 299 8).all fun j => tal.at2 13 j) = true := by kernel_rfl
theorem w330 : ((List.range' 330 3).all fun j => tal.at2 13 j) = true := by kernel_rfl
theorem w342 : ((List.range' 342 3).all fun j => tal.at2 13 j) = true := by kernel_rfl
theorem w354 : ((List.range' 354 3).all fun j => tal.at2 13 j) = true := by kernel_rfl
theorem w363 : ((List.range' 363 2).all fun j => tal.at2 13 j) = true := by kernel_rfl
theorem w369 : ((List.range' 369 2).all fun j => tal.at2 13 j) = true := by kernel_rfl
theorem w380 : ((List.range' 380 3).all fun j => tal.at2 13 j) = true := by kernel_rfl
theorem w391 : ((List.range' 391 3).all fun j => tal.at2 13 j) = true := by kernel_rfl
end Go.Proofs.YtaiecnepchndkaaDoor.tallBlocks
