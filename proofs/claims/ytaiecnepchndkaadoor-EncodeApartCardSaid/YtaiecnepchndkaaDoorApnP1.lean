/- There and back: the walks at some cases of the input. -/
import Derived.Test.YtaiecnepchndkaaDoorAptDef
namespace Go.Proofs.YtaiecnepchndkaaDoor.apn
open Go.Sx
set_option maxRecDepth 100000
theorem w18x0 : ((List.range' 0 14).all fun j => apt.nat 18 j) = true := by kernel_rfl
theorem w5x8 : ((List.range' 8 8).all fun j => apt.nat 5 j) = true := by kernel_rfl
theorem w28x0 : ((List.range' 0 18).all fun j => apt.nat 28 j) = true := by kernel_rfl
theorem w26x0 : ((List.range' 0 19).all fun j => apt.nat 26 j) = true := by kernel_rfl
theorem w7x0 : ((List.range' 0 11).all fun j => apt.nat 7 j) = true := by kernel_rfl
theorem w34x0 : ((List.range' 0 3).all fun j => apt.nat 34 j) = true := by kernel_rfl
theorem w33x0 : ((List.range' 0 3).all fun j => apt.nat 33 j) = true := by kernel_rfl
theorem w4x0 : ((List.range' 0 10).all fun j => apt.nat 4 j) = true := by kernel_rfl
theorem w3x0 : ((List.range' 0 10).all fun j => apt.nat 3 j) = true := by kernel_rfl
theorem w20x0 : ((List.range' 0 9).all fun j => apt.nat 20 j) = true := by kernel_rfl
theorem w35x6 : ((List.range' 6 1).all fun j => apt.nat 35 j) = true := by kernel_rfl
theorem w41x0 : ((List.range' 0 9).all fun j => apt.nat 41 j) = true := by kernel_rfl
theorem w40x0 : ((List.range' 0 9).all fun j => apt.nat 40 j) = true := by kernel_rfl
theorem w13x0 : ((List.range' 0 6).all fun j => apt.nat 13 j) = true := by kernel_rfl
theorem w32x4 : ((List.range' 4 1).all fun j => apt.nat 32 j) = true := by kernel_rfl
theorem lo : apt.atq 27 20 1 wid.knLow = true := by kernel_rfl
theorem hi : apt.atq 27 20 1 wid.knHigh = true := by kernel_rfl
theorem w39x0 : ((List.range' 0 2).all fun j => apt.nat 39 j) = true := by kernel_rfl
theorem w21x0 : ((List.range' 0 2).all fun j => apt.nat 21 j) = true := by kernel_rfl
theorem w30x18 : ((List.range' 18 2).all fun j => apt.nat 30 j) = true := by kernel_rfl
theorem w45x0 : ((List.range' 0 2).all fun j => apt.nat 45 j) = true := by kernel_rfl
theorem c5 : apt.covN 5 = true := by kernel_rfl
theorem c8 : apt.covN 8 = true := by kernel_rfl
theorem c11 : apt.covN 11 = true := by kernel_rfl
theorem c14 : apt.covN 14 = true := by kernel_rfl
theorem c17 : apt.covN 17 = true := by kernel_rfl
theorem c20 : apt.covN 20 = true := by kernel_rfl
theorem c23 : apt.covN 23 = true := by kernel_rfl
theorem c26 : apt.covN 26 = true := by kernel_rfl
theorem c29 : apt.covN 29 = true := by kernel_rfl
theorem c32 : apt.covN 32 = true := by kernel_rfl
theorem c35 : apt.covN 35 = true := by kernel_rfl
theorem c38 : apt.covN 38 = true := by kernel_rfl
theorem c41 : apt.covN 41 = true := by kernel_rfl
theorem c44 : apt.covN 44 = true := by kernel_rfl
end Go.Proofs.YtaiecnepchndkaaDoor.apn
