/- Tla: the walks at some cases of the input. -/
import Derived.Test.YtiicniiecomhjaaDoorJC0
namespace Go.Proofs.YtiicniiecomhjaaDoor.tla
open Go.Sx
set_option maxRecDepth 100000
theorem w0x81 : ((List.range' 81 8).all fun j => tal.at' j) = true := by kernel_rfl
theorem w0x143 : ((List.range' 143 17).all fun j => tal.at' j) = true := by kernel_rfl
theorem w0x251 : ((List.range' 251 1).all fun j => tal.at' j) = true := by kernel_rfl
theorem w0x62 : ((List.range' 62 1).all fun j => tal.at' j) = true := by kernel_rfl
theorem w0x125 : ((List.range' 125 1).all fun j => tal.at' j) = true := by kernel_rfl
end Go.Proofs.YtiicniiecomhjaaDoor.tla
