/- TallBlocks: the walks at some cases of the input. -/
import Derived.Test.YtaiecnepchndkaaDoorTalDef
namespace Go.Proofs.YtaiecnepchndkaaDoor.tallBlocks
open Go.Sx
set_option maxRecDepth 100000
theorem w47 : ((List.range' 47 6).all fun j => tal.at2 13 j) = true := by kernel_rfl
theorem w53 : ((List.range' 53 8).all fun j => tal.at2 13 j) = true := by kernel_rfl
theorem w85 : ((List.range' 85 8).all fun j => tal.at2 13 j) = true := by kernel_rfl
theorem w132 : ((List.range' 132 8).all fun j => tal.at2 13 j) = true := by kernel_rfl
theorem w158 : ((List.range' 158 9).all fun j => tal.at2 13 j) = true := by kernel_rfl
theorem w193 : ((List.range' 193 8).all fun j => tal.at2 13 j) = true := by kernel_rfl
theorem w226 : ((List.range' 226 7).all fun j => tal.at2 13 j) = true := by kernel_rfl
theorem w249 : ((List.range' 249 8).all fun j => tal.at2 13 j) = true := by kernel_rfl
theorem w283 : ((List.range' 283 8).all fun j => tal.at2 13 j) = true := by kernel_rfl
theorem w316 : ((List.range' 316 8).all fun j => tal.at2 13 j) = true := by kernel_rfl
theorem w339 : ((List.range' 339 3).all fun j => tal.at2 13 j) = true := by kernel_rfl
theorem w348 : ((List.range' 348 3).all fun j => tal.at2 13 j) = true := by kernel_rfl
theorem w360 : ((List.range' 360 1).all fun j => tal.at2 13 j) = true := by kernel_rfl
theorem w367 : ((List.range' 367 2).all fun j => tal.at2 13 j) = true := by kernel_rfl
theorem w377 : ((List.range' 377 3).all fun j => tal.at2 13 j) = true := by kernel_rfl
theorem w389 : ((List.range' 389 2).all fun j => tal.at2 13 j) = true := by kernel_rfl
theorem w412 : ((List.range' 412 7).all fun j => tal.at2 13 j) = true := by kernel_rfl
end Go.Proofs.YtaiecnepchndkaaDoor.tallBlocks
