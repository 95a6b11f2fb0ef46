/- TallLow: the walks at some cases of the input. -/
import Derived.Test.YtaiecnepchndkaaDoorTalDef
namespace Go.Proofs.YtaiecnepchndkaaDoor.tallLow
open Go.Sx
set_option maxRecDepth 100000
theorem w50 : ((List.range' 50 8).all fun j => tal.at3 12 j) = true := by kernel_rfl
theorem w66 : ((List.range' 66 8).all fun j => tal.at3 12 j) = true := by kernel_rfl
theorem w105 : ((List.range' 105 8).all fun j => tal.at3 12 j) = true := by kernel_rfl
theorem w137 : ((List.range' 137 9).all fun j => tal.at3 12 j) = true := by kernel_rfl
theorem w181 : ((List.range' 181 8).all fun j => tal.at3 12 j) = true := by kernel_rfl
theorem w205 : ((List.range' 205 8).all fun j => tal.at3 12 j) = true := by kernel_rfl
theorem w238 : ((List.range' 238 8).all fun j => tal.at3 12 j) = true := by kernel_rfl
theorem w263 : ((List.range' 263 9).all fun j => tal.at3 12 j) = true := by kernel_rfl
theorem w311 : ((List.range' 311 9).all fun j => tal.at3 12 j) = true := by kernel_rfl
theorem w332 : ((List.range' 332 2).all fun j => tal.at3 12 j) = true := by kernel_rfl
theorem w343 : ((List.range' 343 3).all fun j => tal.at3 12 j) = true := by kernel_rfl
theorem w354 : ((List.range' 354 2).all fun j => tal.at3 12 j) = true := by kernel_rfl
theorem w364 : ((List.range' 364 2).all fun j => tal.at3 12 j) = true := by kernel_rfl
theorem w368 : ((List.range' 368 3).all fun j => tal.at3 12 j) = true := by kernel_rfl
theorem w386 : ((List.range' 386 3).all fun j => tal.at3 12 j) = true := by kernel_rfl
theorem w394 : ((List.range' 394 6).all fun j => tal.at3 12 j) = true := by kernel_rfl
end Go.Proofs.YtaiecnepchndkaaDoor.tallLow
