/- cartoucheref02.Expand at numbers of twelve bits. -/
import Derived.Test.YtaiecnepchndkaaDoorRexN
namespace Go.Proofs.YtaiecnepchndkaaDoor.rex
open Go.Sx
set_option maxRecDepth 100000
theorem x3904 : ((List.range' 3904 32).all expAt) = true := by kernel_rfl
theorem x3936 : ((List.range' 3936 32).all expAt) = true := by kernel_rfl
theorem x3968 : ((List.range' 3968 32).all expAt) = true := by kernel_rfl
theorem x4000 : ((List.range' 4000 32).all expAt) = true := by kernel_rfl
theorem x4032 : ((List.range' 4032 32).all expAt) = true := by kernel_rfl
theorem x4064 : ((List.range' 4064 32).all expAt) = true := by kernel_rfl
end Go.Proofs.YtaiecnepchndkaaDoor.rex
