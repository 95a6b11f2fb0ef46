/- TallLow: the walks at some cases of the input. -/
import Derived.Test.YtaiecnepchndkaaDoorTalDef
namespace Go.Proofs.YtaiecnepchndkaaDoor.tallLow
open Go.Sx
set_option maxRecDepth 100000
theorem w24 : ((List.range' 24 18).all fun j => tal.at3 12 j) = true := by kernel_rfl
theorem w74 : ((List.range' 74 8).all fun j => tal.at3 12 j) = true := by kernel_rfl
theorem w113 : ((List.range' 113 8).all fun j => tal.at3 12 j) = true := by kernel_rfl
theorem w146 : ((List.range' 146 9).all fun j => tal.at3 12 j) = true := by kernel_rfl
theorem w172 : ((List.range' 172 9).all fun j => tal.at3 12 j) = true := by kernel_rfl
theorem w213 : ((List.range' 213 9).all fun j => tal.at3 12 j) = true := by kernel_rfl
theorem w246 : ((List.range' 246 8).all fun j => tal.at3 12 j) = true := by kernel_rfl
theorem w280 : ((List.range' 280 7).all fun j => tal.at3 12 j) = true := by kernel_rfl
theorem w303 : ((List.range' 303 8).all fun j => tal.at3 12 j) = true := by kernel_rfl
theorem w330 : ((List.range' 330 2).all fun j => tal.at3 12 j) = true := by kernel_rfl
theorem w334 : ((List.range' 334 3).all fun j => tal.at3 12 j) = true := by kernel_rfl
theorem w351 : ((List.range' 351 3).all fun j => tal.at3 12 j) = true := by kernel_rfl
theorem w362 : ((List.range' 362 2).all fun j => tal.at3 12 j) = true := by kernel_rfl
theorem w371 : ((List.range' 371 3).all fun j => tal.at3 12 j) = true := by kernel_rfl
theorem w383 : ((List.range' 383 3).all fun j => tal.at3 12 j) = true := by kernel_rfl
theorem w400 : ((List.range' 400 13).all fun j => tal.at3 12 j) = true := by kernel_rfl
end Go.Proofs.YtaiecnepchndkaaDoor.tallLow
