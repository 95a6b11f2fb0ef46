/- Tla: the walks at some cases of the input. -/
import Derived.Test.YtiicniiecomhjaaDoorJC0
namespace Go.Proofs.YtiicniiecomhjaaDoor.tla
open Go.Sx
set_option maxRecDepth 100000
theorem w0x359 : ((List.range' 359 2).all fun j => tal.at' j) = true := by kernel_rfl
theorem w0x341 : ((List.range' 341 6).all fun j => tal.at' j) = true := by kernel_rfl
theorem w0x331 : ((List.range' 331 4).all fun j => tal.at' j) = true := by kernel_rfl
theorem w0x378 : ((List.range' 378 6).all fun j => tal.at' j) = true := by kernel_rfl
theorem w0x160 : ((List.range' 160 15).all fun j => tal.at' j) = true := by kernel_rfl
end Go.Proofs.YtiicniiecomhjaaDoor.tla
