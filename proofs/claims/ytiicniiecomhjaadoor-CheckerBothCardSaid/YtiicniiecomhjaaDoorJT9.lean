/- Tla: the walks at some cases of the input. -/
import Derived.Test.YtiicniiecomhjaaDoorJC0
namespace Go.Proofs.YtiicniiecomhjaaDoor.tla
open Go.Sx
set_option maxRecDepth 100000
theorem w0x215 : ((List.range' 215 9).all fun j => tal.at' j) = true := by kernel_rfl
theorem w0x252 : ((List.range' 252 17).all fun j => tal.at' j) = true := by kernel_rfl
theorem w0x198 : ((List.range' 198 17).all fun j => tal.at' j) = true := by kernel_rfl
theorem w0x72 : ((List.range' 72 6).all fun j => tal.at' j) = true := by kernel_rfl
theorem w0x401 : ((List.range' 401 7).all fun j => tal.at' j) = true := by kernel_rfl
end Go.Proofs.YtiicniiecomhjaaDoor.tla
