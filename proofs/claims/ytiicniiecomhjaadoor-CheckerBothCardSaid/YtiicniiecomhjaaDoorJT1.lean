/- Tla: the walks at some cases of the input. -/
import Derived.Test.YtiicniiecomhjaaDoorJC0
namespace Go.Proofs.YtiicniiecomhjaaDoor.tla
open Go.Sx
set_option maxRecDepth 100000
theorem w0x44 : ((List.range' 44 1).all fun j => tal.at' j) = true := by kernel_rfl
theorem w0x188 : ((List.range' 188 1).all fun j => tal.at' j) = true := by kernel_rfl
theorem w0x54 : ((List.range' 54 8).all fun j => tal.at' j) = true := by kernel_rfl
theorem w0x225 : ((List.range' 225 8).all fun j => tal.at' j) = true := by kernel_rfl
theorem w0x63 : ((List.range' 63 8).all fun j => tal.at' j) = true := by kernel_rfl
theorem w0x16 : ((List.range' 16 28).all fun j => tal.at' j) = true := by kernel_rfl
end Go.Proofs.YtiicniiecomhjaaDoor.tla
