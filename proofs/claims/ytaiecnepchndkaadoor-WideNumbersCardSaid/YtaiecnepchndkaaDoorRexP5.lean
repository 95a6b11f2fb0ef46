/- cartoucheref02.Expand at numbers of twelve bits. -/
import Derived.Test.YtaiecnepchndkaaDoorRexN
namespace Go.Proofs.YtaiecnepchndkaaDoor.rex
open Go.Sx
set_option maxRecDepth 100000
theorem x3520 : ((List.range' 3520 32).all expAt) = true := by kernel_rfl
theorem x3552 : ((List.range' 3552 32).all expAt) = true := by kernel_rfl
theorem x3584 : ((List.range' 3584 32).all expAt) = true := by kernel_rfl
theorem x3616 : ((List.range' 3616 32).all expAt) = true := by kernel_rfl
theorem x3648 : ((List.range' 3648 32).all expAt) = true := by kernel_rfl
theorem x3680 : ((List.range' 3680 32).all expAt) = true := by kernel_rfl
end Go.Proofs.YtaiecnepchndkaaDoor.rex
