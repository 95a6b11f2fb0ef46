/- Tla: the walks at some cases of the input. -/
import Derived.Test.YtiicniiecomhjaaDoorJC0
namespace Go.Proofs.YtiicniiecomhjaaDoor.tla
open Go.Sx
set_option maxRecDepth 100000
theorem w0x278 : ((List.range' 278 1).all fun j => tal.at' j) = true := by kernel_rfl
theorem w0x71 : ((List.range' 71 1).all fun j => tal.at' j) = true := by kernel_rfl
theorem w0x89 : ((List.range' 89 1).all fun j => tal.at' j) = true := by kernel_rfl
theorem w0x288 : ((List.range' 288 8).all fun j => tal.at' j) = true := by kernel_rfl
theorem w0x45 : ((List.range' 45 8).all fun j => tal.at' j) = true := by kernel_rfl
theorem w0x269 : ((List.range' 269 9).all fun j => tal.at' j) = true := by kernel_rfl
end Go.Proofs.YtiicniiecomhjaaDoor.tla
