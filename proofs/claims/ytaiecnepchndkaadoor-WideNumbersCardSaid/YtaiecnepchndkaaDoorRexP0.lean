/- cartoucheref02.Expand at numbers of twelve bits. -/
import Derived.Test.YtaiecnepchndkaaDoorRexN
namespace Go.Proofs.YtaiecnepchndkaaDoor.rex
open Go.Sx
set_option maxRecDepth 100000
theorem e0 : ((List.range' 0 128).all expAt) = true := by kernel_rfl
theorem e1 : ((List.range' 128 128).all expAt) = true := by kernel_rfl
theorem e2 : ((List.range' 256 128).all expAt) = true := by kernel_rfl
theorem e3 : ((List.range' 384 128).all expAt) = true := by kernel_rfl
theorem e4 : ((List.range' 512 128).all expAt) = true := by kernel_rfl
theorem e5 : ((List.range' 640 128).all expAt) = true := by kernel_rfl
theorem e6 : ((List.range' 768 128).all expAt) = true := by kernel_rfl
theorem e7 : ((List.range' 896 128).all expAt) = true := by kernel_rfl
end Go.Proofs.YtaiecnepchndkaaDoor.rex
