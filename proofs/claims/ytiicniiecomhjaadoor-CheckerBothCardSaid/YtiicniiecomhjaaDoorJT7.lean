/- Tla: the walks at some cases of the input. -/
import Derived.Test.YtiicniiecomhjaaDoorJC0
namespace Go.Proofs.YtiicniiecomhjaaDoor.tla
open Go.Sx
set_option maxRecDepth 100000
theorem w0x366 : ((List.range' 366 5).all fun j => tal.at' j) = true := by kernel_rfl
theorem w0x353 : ((List.range' 353 6).all fun j => tal.at' j) = true := by kernel_rfl
theorem w0x384 : ((List.range' 384 6).all fun j => tal.at' j) = true := by kernel_rfl
theorem w0x175 : ((List.range' 175 13).all fun j => tal.at' j) = true := by kernel_rfl
theorem w0x296 : ((List.range' 296 1).all fun j => tal.at' j) = true := by kernel_rfl
end Go.Proofs.YtiicniiecomhjaaDoor.tla
