/- Tla: the walks at some cases of the input. -/
import Derived.Test.YtiicniiecomhjaaDoorJC0
namespace Go.Proofs.YtiicniiecomhjaaDoor.tla
open Go.Sx
set_option maxRecDepth 100000
theorem w0x80 : ((List.range' 80 1).all fun j => tal.at' j) = true := by kernel_rfl
theorem w0x78 : ((List.range' 78 2).all fun j => tal.at' j) = true := by kernel_rfl
theorem w0x117 : ((List.range' 117 8).all fun j => tal.at' j) = true := by kernel_rfl
theorem w0x189 : ((List.range' 189 8).all fun j => tal.at' j) = true := by kernel_rfl
theorem w0x390 : ((List.range' 390 4).all fun j => tal.at' j) = true := by kernel_rfl
theorem w0x408 : ((List.range' 408 6).all fun j => tal.at' j) = true := by kernel_rfl
end Go.Proofs.YtiicniiecomhjaaDoor.tla
