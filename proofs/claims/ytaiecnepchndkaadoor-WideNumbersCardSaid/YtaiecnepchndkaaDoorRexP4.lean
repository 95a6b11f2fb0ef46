/- cartoucheref02.Expand at numbers of twelve bits. -/
import Derived.Test.YtaiecnepchndkaaDoorRexN
namespace Go.Proofs.YtaiecnepchndkaaDoor.rex
open Go.Sx
set_option maxRecDepth 100000
theorem x3328 : ((List.range' 3328 32).all expAt) = true := by kernel_rfl
theorem x3360 : ((List.range' 3360 32).all expAt) = true := by kernel_rfl
theorem x3392 : ((List.range' 3392 32).all expAt) = true := by kernel_rfl
theorem x3424 : ((List.range' 3424 32).all expAt) = true := by kernel_rfl
theorem x3456 : ((List.range' 3456 32).all expAt) = true := by kernel_rfl
theorem x3488 : ((List.range' 3488 32).all expAt) = true := by kernel_rfl
end Go.Proofs.YtaiecnepchndkaaDoor.rex
