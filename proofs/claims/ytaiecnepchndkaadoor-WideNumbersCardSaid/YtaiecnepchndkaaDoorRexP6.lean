/- cartoucheref02.Expand at numbers of twelve bits. -/
import Derived.Test.YtaiecnepchndkaaDoorRexN
namespace Go.Proofs.YtaiecnepchndkaaDoor.rex
open Go.Sx
set_option maxRecDepth 100000
theorem x3712 : ((List.range' 3712 32).all expAt) = true := by kernel_rfl
theorem x3744 : ((List.range' 3744 32).all expAt) = true := by kernel_rfl
theorem x3776 : ((List.range' 3776 32).all expAt) = true := by kernel_rfl
theorem x3808 : ((List.range' 3808 32).all expAt) = true := by kernel_rfl
theorem x3840 : ((List.range' 3840 32).all expAt) = true := by kernel_rfl
theorem x3872 : ((List.range' 3872 32).all expAt) = true := by kernel_rfl
end Go.Proofs.YtaiecnepchndkaaDoor.rex
