/- cartoucheref02.Expand at numbers of twelve bits. -/
import Derived.Test.YtaiecnepchndkaaDoorRexN
namespace Go.Proofs.YtaiecnepchndkaaDoor.rex
open Go.Sx
set_option maxRecDepth 100000
theorem e24 : ((List.range' 3072 128).all expAt) = true := by kernel_rfl
theorem e25 : ((List.range' 3200 128).all expAt) = true := by kernel_rfl
end Go.Proofs.YtaiecnepchndkaaDoor.rex
