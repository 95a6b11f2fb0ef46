/- There and back: the walks at some cases of the input. -/
import Derived.Test.YtaiecnepchndkaaDoorApwDef
namespace Go.Proofs.YtaiecnepchndkaaDoor.apw
open Go.Sx
set_option maxRecDepth 100000
theorem w19x2 : ((List.range' 2 1).all fun j => apt.vat 19 j) = true := by kernel_rfl
theorem w1x3 : ((List.range' 3 1).all fun j => apt.vat 1 j) = true := by kernel_rfl
theorem w5x6 : ((List.range' 6 1).all fun j => apt.vat 5 j) = true := by kernel_rfl
theorem w4x3 : ((List.range' 3 1).all fun j => apt.vat 4 j) = true := by kernel_rfl
theorem w35x0 : ((List.range' 0 5).all fun j => apt.vat 35 j) = true := by kernel_rfl
theorem w1x0 : ((List.range' 0 3).all fun j => apt.vat 1 j) = true := by kernel_rfl
theorem w9x0 : ((List.range' 0 3).all fun j => apt.vat 9 j) = true := by kernel_rfl
theorem w25x0 : ((List.range' 0 3).all fun j => apt.vat 25 j) = true := by kernel_rfl
theorem w31x2 : ((List.range' 2 1).all fun j => apt.vat 31 j) = true := by kernel_rfl
theorem w31x6 : ((List.range' 6 1).all fun j => apt.vat 31 j) = true := by kernel_rfl
theorem w31x10 : ((List.range' 10 1).all fun j => apt.vat 31 j) = true := by kernel_rfl
theorem w31x14 : ((List.range' 14 1).all fun j => apt.vat 31 j) = true := by kernel_rfl
theorem w32x4 : ((List.range' 4 1).all fun j => apt.vat 32 j) = true := by kernel_rfl
theorem w32x8 : ((List.range' 8 1).all fun j => apt.vat 32 j) = true := by kernel_rfl
theorem w32x12 : ((List.range' 12 1).all fun j => apt.vat 32 j) = true := by kernel_rfl
theorem w27x0 : ((List.range' 0 3).all fun j => apt.vat 27 j) = true := by kernel_rfl
theorem w34x0 : ((List.range' 0 2).all fun j => apt.vat 34 j) = true := by kernel_rfl
theorem w40x0 : ((List.range' 0 3).all fun j => apt.vat 40 j) = true := by kernel_rfl
theorem w15x0 : ((List.range' 0 4).all fun j => apt.vat 15 j) = true := by kernel_rfl
theorem w17x3 : ((List.range' 3 1).all fun j => apt.vat 17 j) = true := by kernel_rfl
theorem w23x0 : ((List.range' 0 2).all fun j => apt.vat 23 j) = true := by kernel_rfl
theorem w42x0 : ((List.range' 0 2).all fun j => apt.vat 42 j) = true := by kernel_rfl
theorem w43x0 : ((List.range' 0 2).all fun j => apt.vat 43 j) = true := by kernel_rfl
theorem c3 : apt.covV 3 = true := by kernel_rfl
theorem c7 : apt.covV 7 = true := by kernel_rfl
theorem c11 : apt.covV 11 = true := by kernel_rfl
theorem c15 : apt.covV 15 = true := by kernel_rfl
theorem c19 : apt.covV 19 = true := by kernel_rfl
theorem c23 : apt.covV 23 = true := by kernel_rfl
theorem c27 : apt.covV 27 = true := by kernel_rfl
theorem c31 : apt.covV 31 = true := by kernel_rfl
theorem c35 : apt.covV 35 = true := by kernel_rfl
theorem c39 : apt.covV 39 = true := by kernel_rfl
theorem c43 : apt.covV 43 = true := by kernel_rfl
end Go.Proofs.YtaiecnepchndkaaDoor.apw
