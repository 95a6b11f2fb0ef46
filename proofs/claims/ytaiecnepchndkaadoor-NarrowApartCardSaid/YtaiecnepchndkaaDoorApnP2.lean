/- There and back: the walks at some cases of the input. -/
import Derived.Test.YtaiecnepchndkaaDoorAptDef
namespace Go.Proofs.YtaiecnepchndkaaDoor.apn
open Go.Sx
set_option maxRecDepth 100000
theorem w25x0 : ((List.range' 0 19).all fun j => apt.nat 25 j) = true := by kernel_rfl
theorem w27x0 : ((List.range' 0 19).all fun j => apt.nat 27 j) = true := by kernel_rfl
theorem w16x0 : ((List.range' 0 13).all fun j => apt.nat 16 j) = true := by kernel_rfl
theorem w29x0 : ((List.range' 0 19).all fun j => apt.nat 29 j) = true := by kernel_rfl
theorem w5x0 : ((List.range' 0 8).all fun j => apt.nat 5 j) = true := by kernel_rfl
theorem w35x4 : ((List.range' 4 2).all fun j => apt.nat 35 j) = true := by kernel_rfl
theorem w35x0 : ((List.range' 0 4).all fun j => apt.nat 35 j) = true := by kernel_rfl
theorem w19x0 : ((List.range' 0 10).all fun j => apt.nat 19 j) = true := by kernel_rfl
theorem w1x0 : ((List.range' 0 10).all fun j => apt.nat 1 j) = true := by kernel_rfl
theorem w9x0 : ((List.range' 0 10).all fun j => apt.nat 9 j) = true := by kernel_rfl
theorem w32x0 : ((List.range' 0 1).all fun j => apt.nat 32 j) = true := by kernel_rfl
theorem w11x0 : ((List.range' 0 6).all fun j => apt.nat 11 j) = true := by kernel_rfl
theorem w37x0 : ((List.range' 0 2).all fun j => apt.nat 37 j) = true := by kernel_rfl
theorem w38x0 : ((List.range' 0 2).all fun j => apt.nat 38 j) = true := by kernel_rfl
theorem w14x0 : ((List.range' 0 6).all fun j => apt.nat 14 j) = true := by kernel_rfl
theorem w42x0 : ((List.range' 0 2).all fun j => apt.nat 42 j) = true := by kernel_rfl
theorem w15x0 : ((List.range' 0 3).all fun j => apt.nat 15 j) = true := by kernel_rfl
theorem w43x0 : ((List.range' 0 2).all fun j => apt.nat 43 j) = true := by kernel_rfl
theorem w24x0 : ((List.range' 0 2).all fun j => apt.nat 24 j) = true := by kernel_rfl
theorem w36x0 : ((List.range' 0 2).all fun j => apt.nat 36 j) = true := by kernel_rfl
theorem c2 : apt.covN 2 = true := by kernel_rfl
theorem c4 : apt.covN 4 = true := by kernel_rfl
theorem c7 : apt.covN 7 = true := by kernel_rfl
theorem c10 : apt.covN 10 = true := by kernel_rfl
theorem c13 : apt.covN 13 = true := by kernel_rfl
theorem c16 : apt.covN 16 = true := by kernel_rfl
theorem c19 : apt.covN 19 = true := by kernel_rfl
theorem c22 : apt.covN 22 = true := by kernel_rfl
theorem c25 : apt.covN 25 = true := by kernel_rfl
theorem c28 : apt.covN 28 = true := by kernel_rfl
theorem c31 : apt.covN 31 = true := by kernel_rfl
theorem c34 : apt.covN 34 = true := by kernel_rfl
theorem c37 : apt.covN 37 = true := by kernel_rfl
theorem c40 : apt.covN 40 = true := by kernel_rfl
theorem c43 : apt.covN 43 = true := by kernel_rfl
theorem w27x19 : ((List.range' 19 1).all fun j => apt.nat 27 j) = true := by kernel_rfl
end Go.Proofs.YtaiecnepchndkaaDoor.apn
