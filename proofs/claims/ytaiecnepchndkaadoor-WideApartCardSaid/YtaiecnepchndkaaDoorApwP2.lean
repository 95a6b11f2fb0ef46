/- There and back: the walks at some cases of the input. -/
import Derived.Test.YtaiecnepchndkaaDoorApwDef
namespace Go.Proofs.YtaiecnepchndkaaDoor.apw
open Go.Sx
set_option maxRecDepth 100000
theorem w16x2 : ((List.range' 2 1).all fun j => apt.vat 16 j) = true := by kernel_rfl
theorem w9x3 : ((List.range' 3 1).all fun j => apt.vat 9 j) = true := by kernel_rfl
theorem w6x3 : ((List.range' 3 1).all fun j => apt.vat 6 j) = true := by kernel_rfl
theorem w5x0 : ((List.range' 0 5).all fun j => apt.vat 5 j) = true := by kernel_rfl
theorem w32x0 : ((List.range' 0 2).all fun j => apt.vat 32 j) = true := by kernel_rfl
theorem w6x0 : ((List.range' 0 3).all fun j => apt.vat 6 j) = true := by kernel_rfl
theorem w11x0 : ((List.range' 0 4).all fun j => apt.vat 11 j) = true := by kernel_rfl
theorem w16x0 : ((List.range' 0 2).all fun j => apt.vat 16 j) = true := by kernel_rfl
theorem w26x0 : ((List.range' 0 3).all fun j => apt.vat 26 j) = true := by kernel_rfl
theorem w31x4 : ((List.range' 4 1).all fun j => apt.vat 31 j) = true := by kernel_rfl
theorem w31x8 : ((List.range' 8 1).all fun j => apt.vat 31 j) = true := by kernel_rfl
theorem w31x12 : ((List.range' 12 1).all fun j => apt.vat 31 j) = true := by kernel_rfl
theorem w32x2 : ((List.range' 2 1).all fun j => apt.vat 32 j) = true := by kernel_rfl
theorem w32x6 : ((List.range' 6 1).all fun j => apt.vat 32 j) = true := by kernel_rfl
theorem w32x10 : ((List.range' 10 1).all fun j => apt.vat 32 j) = true := by kernel_rfl
theorem w32x14 : ((List.range' 14 1).all fun j => apt.vat 32 j) = true := by kernel_rfl
theorem w28x0 : ((List.range' 0 3).all fun j => apt.vat 28 j) = true := by kernel_rfl
theorem w12x0 : ((List.range' 0 4).all fun j => apt.vat 12 j) = true := by kernel_rfl
theorem w21x0 : ((List.range' 0 2).all fun j => apt.vat 21 j) = true := by kernel_rfl
theorem lo : apt.atq 33 31 2 wid.knLow = true := by kernel_rfl
theorem hi : apt.atq 33 31 2 wid.knHigh = true := by kernel_rfl
theorem w7x5 : ((List.range' 5 1).all fun j => apt.vat 7 j) = true := by kernel_rfl
theorem w37x0 : ((List.range' 0 2).all fun j => apt.vat 37 j) = true := by kernel_rfl
theorem w44x0 : ((List.range' 0 2).all fun j => apt.vat 44 j) = true := by kernel_rfl
theorem c5 : apt.covV 5 = true := by kernel_rfl
theorem c9 : apt.covV 9 = true := by kernel_rfl
theorem c13 : apt.covV 13 = true := by kernel_rfl
theorem c17 : apt.covV 17 = true := by kernel_rfl
theorem c21 : apt.covV 21 = true := by kernel_rfl
theorem c25 : apt.covV 25 = true := by kernel_rfl
theorem c29 : apt.covV 29 = true := by kernel_rfl
theorem c33 : apt.covV 33 = true := by kernel_rfl
theorem c37 : apt.covV 37 = true := by kernel_rfl
theorem c41 : apt.covV 41 = true := by kernel_rfl
theorem c45 : apt.covV 45 = true := by kernel_rfl
end Go.Proofs.YtaiecnepchndkaaDoor.apw
