/- Tla: the walks at some cases of the input. -/
import Derived.Test.YtiicniiecomhjaaDoorJC0
namespace Go.Proofs.YtiicniiecomhjaaDoor.tla
open Go.Sx
set_option maxRecDepth 100000
theorem w0x279 : ((List.range' 279 8).all fun j => tal.at' j) = true := by kernel_rfl
theorem w0x398 : ((List.range' 398 3).all fun j => tal.at' j) = true := by kernel_rfl
theorem w0x126 : ((List.range' 126 17).all fun j => tal.at' j) = true := by kernel_rfl
theorem w0x323 : ((List.range' 323 8).all fun j => tal.at' j) = true := by kernel_rfl
theorem w0x347 : ((List.range' 347 6).all fun j => tal.at' j) = true := by kernel_rfl
end Go.Proofs.YtiicniiecomhjaaDoor.tla
