/- cartoucheref02.Expand at numbers of twelve bits. -/
import Derived.Test.YtaiecnepchndkaaDoorRexN
namespace Go.Proofs.YtaiecnepchndkaaDoor.rex
open Go.Sx
set_option maxRecDepth 100000
theorem e8 : ((List.range' 1024 128).all expAt) = true := by kernel_rfl
theorem e9 : ((List.range' 1152 128).all expAt) = true := by kernel_rfl
theorem e10 : ((List.range' 1280 128).all expAt) = true := by kernel_rfl
theorem e11 : ((List.range' 1408 128).all expAt) = true := by kernel_rfl
theorem e12 : ((List.range' 1536 128).all expAt) = true := by kernel_rfl
theorem e13 : ((List.range' 1664 128).all expAt) = true := by kernel_rfl
theorem e14 : ((List.range' 1792 128).all expAt) = true := by kernel_rfl
theorem e15 : ((List.range' 1920 128).all expAt) = true := by kernel_rfl
end Go.Proofs.YtaiecnepchndkaaDoor.rex
