/- TallLow: the walks at some cases of the input. -/
import Derived.Test.YtaiecnepchndkaaDoorTalDef
namespace Go.Proofs.YtaiecnepchndkaaDoor.tallLow
open Go.Sx
set_option maxRecDepth 100000
theorem w42 : ((List.range' 42 8).all fun j => tal.at3 12 j) = true := by kernel_rfl
theorem w58 : ((List.range' 58 8).all fun j => tal.at3 12 j) = true := by kernel_rfl
theorem w97 : ((List.range' 97 8).all fun j => tal.at3 12 j) = true := by kernel_rfl
theorem w121 : ((List.range' 121 8).all fun j => tal.at3 12 j) = true := by kernel_rfl
theorem w163 : ((List.range' 163 9).all fun j => tal.at3 12 j) = true := by kernel_rfl
theorem w197 : ((List.range' 197 8).all fun j => tal.at3 12 j) = true := by kernel_rfl
theorem w230 : ((List.range' 230 8).all fun j => tal.at3 12 j) = true := by kernel_rfl
theorem w272 : ((List.range' 272 8).all fun j => tal.at3 12 j) = true := by kernel_rfl
theorem w295 : ((List.range' 295 8).all fun j => tal.at3 12 j) = true := by kernel_rfl
theorem w328 : ((List.range' 328 2).all fun j => tal.at3 12 j) = true := by kernel_rfl
theorem w337 : ((List.range' 337 3).all fun j => tal.at3 12 j) = true := by kernel_rfl
theorem w349 : ((List.range' 349 2).all fun j => tal.at3 12 j) = true := by kernel_rfl
theorem w356 : ((List.range' 356 3).all fun j => tal.at3 12 j) = true := by kernel_rfl
theorem w366 : ((List.range' 366 2).all fun j => tal.at3 12 j) = true := by kernel_rfl
theorem w377 : ((List.range' 377 3).all fun j => tal.at3 12 j) = true := by kernel_rfl
theorem w389 : ((List.range' 389 2).all fun j => tal.at3 12 j) = true := by kernel_rfl
theorem w413 : ((List.range' 413 6).all fun j => tal.at3 12 j) = true := by kernel_rfl
end Go.Proofs.YtaiecnepchndkaaDoor.tallLow
