/- There and back: the walks at some cases of the input. -/
import Derived.Test.YtaiecnepchndkaaDoorApwDef
namespace Go.Proofs.YtaiecnepchndkaaDoor.apw
open Go.Sx
set_option maxRecDepth 100000
theorem w17x2 : ((List.range' 2 1).all fun j => apt.vat 17 j) = true := by kernel_rfl
theorem w3x3 : ((List.range' 3 1).all fun j => apt.vat 3 j) = true := by kernel_rfl
theorem w8x3 : ((List.range' 3 1).all fun j => apt.vat 8 j) = true := by kernel_rfl
theorem w7x0 : ((List.range' 0 5).all fun j => apt.vat 7 j) = true := by kernel_rfl
theorem w41x0 : ((List.range' 0 3).all fun j => apt.vat 41 j) = true := by kernel_rfl
theorem w4x0 : ((List.range' 0 3).all fun j => apt.vat 4 j) = true := by kernel_rfl
theorem w10x0 : ((List.range' 0 4).all fun j => apt.vat 10 j) = true := by kernel_rfl
theorem w19x0 : ((List.range' 0 2).all fun j => apt.vat 19 j) = true := by kernel_rfl
theorem w17x0 : ((List.range' 0 2).all fun j => apt.vat 17 j) = true := by kernel_rfl
theorem w31x3 : ((List.range' 3 1).all fun j => apt.vat 31 j) = true := by kernel_rfl
theorem w31x7 : ((List.range' 7 1).all fun j => apt.vat 31 j) = true := by kernel_rfl
theorem w31x11 : ((List.range' 11 1).all fun j => apt.vat 31 j) = true := by kernel_rfl
theorem w31x15 : ((List.range' 15 1).all fun j => apt.vat 31 j) = true := by kernel_rfl
theorem w32x5 : ((List.range' 5 1).all fun j => apt.vat 32 j) = true := by kernel_rfl
theorem w32x9 : ((List.range' 9 1).all fun j => apt.vat 32 j) = true := by kernel_rfl
theorem w32x13 : ((List.range' 13 1).all fun j => apt.vat 32 j) = true := by kernel_rfl
theorem w29x0 : ((List.range' 0 3).all fun j => apt.vat 29 j) = true := by kernel_rfl
theorem w33x0 : ((List.range' 0 2).all fun j => apt.vat 33 j) = true := by kernel_rfl
theorem w20x0 : ((List.range' 0 2).all fun j => apt.vat 20 j) = true := by kernel_rfl
theorem w36x0 : ((List.range' 0 2).all fun j => apt.vat 36 j) = true := by kernel_rfl
theorem w45x0 : ((List.range' 0 2).all fun j => apt.vat 45 j) = true := by kernel_rfl
theorem w38x0 : ((List.range' 0 2).all fun j => apt.vat 38 j) = true := by kernel_rfl
theorem c1 : apt.covV 1 = true := by kernel_rfl
theorem c4 : apt.covV 4 = true := by kernel_rfl
theorem c8 : apt.covV 8 = true := by kernel_rfl
theorem c12 : apt.covV 12 = true := by kernel_rfl
theorem c16 : apt.covV 16 = true := by kernel_rfl
theorem c20 : apt.covV 20 = true := by kernel_rfl
theorem c24 : apt.covV 24 = true := by kernel_rfl
theorem c28 : apt.covV 28 = true := by kernel_rfl
theorem c32 : apt.covV 32 = true := by kernel_rfl
theorem c36 : apt.covV 36 = true := by kernel_rfl
theorem c40 : apt.covV 40 = true := by kernel_rfl
theorem c44 : apt.covV 44 = true := by kernel_rfl
end Go.Proofs.YtaiecnepchndkaaDoor.apw
