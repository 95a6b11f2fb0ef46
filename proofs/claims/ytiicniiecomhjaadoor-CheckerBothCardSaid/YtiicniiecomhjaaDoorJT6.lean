/- Tla: the walks at some cases of the input. -/
import Derived.Test.YtiicniiecomhjaaDoorJC0
namespace Go.Proofs.YtiicniiecomhjaaDoor.tla
open Go.Sx
set_option maxRecDepth 100000
theorem w0x335 : ((List.range' 335 6).all fun j => tal.at' j) = true := by kernel_rfl
theorem w0x371 : ((List.range' 371 7).all fun j => tal.at' j) = true := by kernel_rfl
theorem w0x90 : ((List.range' 90 17).all fun j => tal.at' j) = true := by kernel_rfl
theorem w0x233 : ((List.range' 233 1).all fun j => tal.at' j) = true := by kernel_rfl
theorem w0x224 : ((List.range' 224 1).all fun j => tal.at' j) = true := by kernel_rfl
end Go.Proofs.YtiicniiecomhjaaDoor.tla
