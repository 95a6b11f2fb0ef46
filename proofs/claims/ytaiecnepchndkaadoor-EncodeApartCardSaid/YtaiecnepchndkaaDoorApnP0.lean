/- There and back: the walks at some cases of the input. -/
import Derived.Test.YtaiecnepchndkaaDoorAptDef
namespace Go.Proofs.YtaiecnepchndkaaDoor.apn
open Go.Sx
set_option maxRecDepth 100000
theorem w17x0 : ((List.range' 0 14).all fun j => apt.nat 17 j) = true := by kernel_rfl
theorem w30x0 : ((List.range' 0 18).all fun j => apt.nat 30 j) = true := by kernel_rfl
theorem w32x1 : ((List.range' 1 3).all fun j => apt.nat 32 j) = true := by kernel_rfl
theorem w31x1 : ((List.range' 1 3).all fun j => apt.nat 31 j) = true := by kernel_rfl
theorem w10x0 : ((List.range' 0 13).all fun j => apt.nat 10 j) = true := by kernel_rfl
theorem w7x11 : ((List.range' 11 10).all fun j => apt.nat 7 j) = true := by kernel_rfl
theorem w2x0 : ((List.range' 0 10).all fun j => apt.nat 2 j) = true := by kernel_rfl
theorem w6x0 : ((List.range' 0 10).all fun j => apt.nat 6 j) = true := by kernel_rfl
theorem w8x0 : ((List.range' 0 10).all fun j => apt.nat 8 j) = true := by kernel_rfl
theorem w12x0 : ((List.range' 0 9).all fun j => apt.nat 12 j) = true := by kernel_rfl
theorem w31x0 : ((List.range' 0 1).all fun j => apt.nat 31 j) = true := by kernel_rfl
theorem w5x16 : ((List.range' 16 5).all fun j => apt.nat 5 j) = true := by kernel_rfl
theorem w18x14 : ((List.range' 14 3).all fun j => apt.nat 18 j) = true := by kernel_rfl
theorem w17x14 : ((List.range' 14 3).all fun j => apt.nat 17 j) = true := by kernel_rfl
theorem w31x4 : ((List.range' 4 1).all fun j => apt.nat 31 j) = true := by kernel_rfl
theorem w28x18 : ((List.range' 18 4).all fun j => apt.nat 28 j) = true := by kernel_rfl
theorem w25x19 : ((List.range' 19 3).all fun j => apt.nat 25 j) = true := by kernel_rfl
theorem w44x0 : ((List.range' 0 2).all fun j => apt.nat 44 j) = true := by kernel_rfl
theorem w22x0 : ((List.range' 0 2).all fun j => apt.nat 22 j) = true := by kernel_rfl
theorem w23x0 : ((List.range' 0 2).all fun j => apt.nat 23 j) = true := by kernel_rfl
theorem c1 : apt.covN 1 = true := by kernel_rfl
theorem c3 : apt.covN 3 = true := by kernel_rfl
theorem c6 : apt.covN 6 = true := by kernel_rfl
theorem c9 : apt.covN 9 = true := by kernel_rfl
theorem c12 : apt.covN 12 = true := by kernel_rfl
theorem c15 : apt.covN 15 = true := by kernel_rfl
theorem c18 : apt.covN 18 = true := by kernel_rfl
theorem c21 : apt.covN 21 = true := by kernel_rfl
theorem c24 : apt.covN 24 = true := by kernel_rfl
theorem c27 : apt.covN 27 = true := by kernel_rfl
theorem c30 : apt.covN 30 = true := by kernel_rfl
theorem c33 : apt.covN 33 = true := by kernel_rfl
theorem c36 : apt.covN 36 = true := by kernel_rfl
theorem c39 : apt.covN 39 = true := by kernel_rfl
theorem c42 : apt.covN 42 = true := by kernel_rfl
theorem c45 : apt.covN 45 = true := by kernel_rfl
end Go.Proofs.YtaiecnepchndkaaDoor.apn
