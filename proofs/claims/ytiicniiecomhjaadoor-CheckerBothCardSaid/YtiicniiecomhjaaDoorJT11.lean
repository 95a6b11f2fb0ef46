/- Tla: the walks at some cases of the input. -/
import Derived.Test.YtiicniiecomhjaaDoorJC0
namespace Go.Proofs.YtiicniiecomhjaaDoor.tla
open Go.Sx
set_option maxRecDepth 100000
theorem w0x234 : ((List.range' 234 8).all fun j => tal.at' j) = true := by kernel_rfl
theorem w0x414 : ((List.range' 414 5).all fun j => tal.at' j) = true := by kernel_rfl
theorem w0x107 : ((List.range' 107 9).all fun j => tal.at' j) = true := by kernel_rfl
theorem w0x306 : ((List.range' 306 17).all fun j => tal.at' j) = true := by kernel_rfl
theorem w0x394 : ((List.range' 394 4).all fun j => tal.at' j) = true := by kernel_rfl
end Go.Proofs.YtiicniiecomhjaaDoor.tla
