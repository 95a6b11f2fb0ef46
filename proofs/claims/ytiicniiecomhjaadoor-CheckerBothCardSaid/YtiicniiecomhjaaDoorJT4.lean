/- Tla: the walks at some cases of the input. -/
import Derived.Test.YtiicniiecomhjaaDoorJC0
namespace Go.Proofs.YtiicniiecomhjaaDoor.tla
open Go.Sx
set_option maxRecDepth 100000
theorem w0x361 : ((List.range' 361 5).all fun j => tal.at' j) = true := by kernel_rfl
theorem w0x15 : ((List.range' 15 1).all fun j => tal.at' j) = true := by kernel_rfl
theorem w0x116 : ((List.range' 116 1).all fun j => tal.at' j) = true := by kernel_rfl
theorem w0x287 : ((List.range' 287 1).all fun j => tal.at' j) = true := by kernel_rfl
theorem w0x53 : ((List.range' 53 1).all fun j => tal.at' j) = true := by kernel_rfl
theorem w0x0 : ((List.range' 0 14).all fun j => tal.at' j) = true := by kernel_rfl
end Go.Proofs.YtiicniiecomhjaaDoor.tla
