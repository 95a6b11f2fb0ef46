/- TallLow: the walks at some cases of the input. -/
import Derived.Test.YtaiecnepchndkaaDoorTalDef
namespace Go.Proofs.YtaiecnepchndkaaDoor.tallLow
open Go.Sx
set_option maxRecDepth 100000
theorem w0 : ((List.range' 0 24).all fun j => tal.at3 12 j) = true := by kernel_rfl
theorem w82 : ((List.range' 82 7).all fun j => tal.at3 12 j) = true := by kernel_rfl
theorem w89 : ((List.range' 89 8).all fun j => tal.at3 12 j) = true := by kernel_rfl
theorem w129 : ((List.range' 129 8).all fun j => tal.at3 12 j) = true := by kernel_rfl
theorem w155 : ((List.range' 155 8).all fun j => tal.at3 12 j) = true := by kernel_rfl
theorem w189 : ((List.range' 189 8).all fun j => tal.at3 12 j) = true := by kernel_rfl
theorem w222 : ((List.range' 222 8).all fun j => tal.at3 12 j) = true := by kernel_rfl
theorem w254 : ((List.range' 254 9).all fun j => tal.at3 12 j) = true := by kernel_rfl
theorem w287 : ((List.range' 287 8).all fun j => tal.at3 12 j) = true := by kernel_rfl
theorem w320 : ((List.range' 320 8).all fun j => tal.at3 12 j) = true := by kernel_rfl
theorem w340 : ((List.range' 340 3).all fun j => tal.at3 12 j) = true := by kernel_rfl
theorem w346 : ((List.range' 346 3).all fun j => tal.at3 12 j) = true := by kernel_rfl
theorem w359 : ((List.range' 359 3).all fun j => tal.at3 12 j) = true := by kernel_rfl
theorem w374 : ((List.range' 374 3).all fun j => tal.at3 12 j) = true := by kernel_rfl
theorem w380 : ((List.range' 380 3).all fun j => tal.at3 12 j) = true := by kernel_rfl
theorem w391 : ((List.range' 391 3).all fun j => tal.at3 12 j) = true := by kernel_rfl
end Go.Proofs.YtaiecnepchndkaaDoor.tallLow
