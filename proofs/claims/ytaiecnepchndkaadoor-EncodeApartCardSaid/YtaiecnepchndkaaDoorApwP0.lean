/- There and back: the walks at some cases of the input. -/
import Derived.Test.YtaiecnepchndkaaDoorApwDef
namespace Go.Proofs.YtaiecnepchndkaaDoor.apw
open Go.Sx
set_option maxRecDepth 100000
theorem w18x2 : ((List.range' 2 1).all fun j => apt.vat 18 j) = true := by kernel_rfl
theorem w7x6 : ((List.range' 6 1).all fun j => apt.vat 7 j) = true := by kernel_rfl
theorem w2x3 : ((List.range' 3 1).all fun j => apt.vat 2 j) = true := by kernel_rfl
theorem w31x0 : ((List.range' 0 2).all fun j => apt.vat 31 j) = true := by kernel_rfl
theorem w2x0 : ((List.range' 0 3).all fun j => apt.vat 2 j) = true := by kernel_rfl
theorem w3x0 : ((List.range' 0 3).all fun j => apt.vat 3 j) = true := by kernel_rfl
theorem w8x0 : ((List.range' 0 3).all fun j => apt.vat 8 j) = true := by kernel_rfl
theorem w18x0 : ((List.range' 0 2).all fun j => apt.vat 18 j) = true := by kernel_rfl
theorem w30x0 : ((List.range' 0 3).all fun j => apt.vat 30 j) = true := by kernel_rfl
theorem w31x5 : ((List.range' 5 1).all fun j => apt.vat 31 j) = true := by kernel_rfl
theorem w31x9 : ((List.range' 9 1).all fun j => apt.vat 31 j) = true := by kernel_rfl
theorem w31x13 : ((List.range' 13 1).all fun j => apt.vat 31 j) = true := by kernel_rfl
theorem w32x3 : ((List.range' 3 1).all fun j => apt.vat 32 j) = true := by kernel_rfl
theorem w32x7 : ((List.range' 7 1).all fun j => apt.vat 32 j) = true := by kernel_rfl
theorem w32x11 : ((List.range' 11 1).all fun j => apt.vat 32 j) = true := by kernel_rfl
theorem w32x15 : ((List.range' 15 1).all fun j => apt.vat 32 j) = true := by kernel_rfl
theorem w13x0 : ((List.range' 0 4).all fun j => apt.vat 13 j) = true := by kernel_rfl
theorem w14x0 : ((List.range' 0 4).all fun j => apt.vat 14 j) = true := by kernel_rfl
theorem w22x0 : ((List.range' 0 2).all fun j => apt.vat 22 j) = true := by kernel_rfl
theorem w18x3 : ((List.range' 3 1).all fun j => apt.vat 18 j) = true := by kernel_rfl
theorem w24x0 : ((List.range' 0 2).all fun j => apt.vat 24 j) = true := by kernel_rfl
theorem w5x5 : ((List.range' 5 1).all fun j => apt.vat 5 j) = true := by kernel_rfl
theorem w39x0 : ((List.range' 0 2).all fun j => apt.vat 39 j) = true := by kernel_rfl
theorem c2 : apt.covV 2 = true := by kernel_rfl
theorem c6 : apt.covV 6 = true := by kernel_rfl
theorem c10 : apt.covV 10 = true := by kernel_rfl
theorem c14 : apt.covV 14 = true := by kernel_rfl
theorem c18 : apt.covV 18 = true := by kernel_rfl
theorem c22 : apt.covV 22 = true := by kernel_rfl
theorem c26 : apt.covV 26 = true := by kernel_rfl
theorem c30 : apt.covV 30 = true := by kernel_rfl
theorem c34 : apt.covV 34 = true := by kernel_rfl
theorem c38 : apt.covV 38 = true := by kernel_rfl
theorem c42 : apt.covV 42 = true := by kernel_rfl
end Go.Proofs.YtaiecnepchndkaaDoor.apw
