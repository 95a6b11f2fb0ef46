/- Tla: the walks at some cases of the input. -/
import Derived.Test.YtiicniiecomhjaaDoorJC0
namespace Go.Proofs.YtiicniiecomhjaaDoor.tla
open Go.Sx
set_option maxRecDepth 100000
theorem w0x14 : ((List.range' 14 1).all fun j => tal.at' j) = true := by kernel_rfl
theorem w0x242 : ((List.range' 242 1).all fun j => tal.at' j) = true := by kernel_rfl
theorem w0x305 : ((List.range' 305 1).all fun j => tal.at' j) = true := by kernel_rfl
theorem w0x197 : ((List.range' 197 1).all fun j => tal.at' j) = true := by kernel_rfl
theorem w0x297 : ((List.range' 297 8).all fun j => tal.at' j) = true := by kernel_rfl
theorem w0x243 : ((List.range' 243 8).all fun j => tal.at' j) = true := by kernel_rfl
end Go.Proofs.YtiicniiecomhjaaDoor.tla
