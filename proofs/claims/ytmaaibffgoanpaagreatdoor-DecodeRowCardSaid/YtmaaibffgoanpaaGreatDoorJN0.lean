/- For the seat: texts joined: EnnP0. -/
import Derived.Test.YtmaaibffgoanpaaGreatDoorJC1
/- Enn: the walks at some cases of the input. -/
namespace Go.Proofs.YtmaaibffgoanpaaGreatDoor.enn
open Go.Sx
set_option maxRecDepth 100000
theorem w32x1 : ((List.range' 1 1).all fun j => enc.nat 32 j) = true := by kernel_rfl
set_option maxRecDepth 100000 in
theorem w17x0 : ((List.range' 0 14).all fun j => enc.nat 17 j) = true := by kernel_rfl
set_option maxRecDepth 100000 in
theorem w28x10 : ((List.range' 10 11).all fun j => enc.nat 28 j) = true := by kernel_rfl
set_option maxRecDepth 100000 in
theorem w35x0 : ((List.range' 0 7).all fun j => enc.nat 35 j) = true := by kernel_rfl
set_option maxRecDepth 100000 in
theorem w26x10 : ((List.range' 10 6).all fun j => enc.nat 26 j) = true := by kernel_rfl
set_option maxRecDepth 100000 in
theorem w28x0 : ((List.range' 0 10).all fun j => enc.nat 28 j) = true := by kernel_rfl
set_option maxRecDepth 100000 in
theorem w5x12 : ((List.range' 12 9).all fun j => enc.nat 5 j) = true := by kernel_rfl
set_option maxRecDepth 100000 in
theorem w34x0 : ((List.range' 0 3).all fun j => enc.nat 34 j) = true := by kernel_rfl
set_option maxRecDepth 100000 in
theorem w5x7 : ((List.range' 7 3).all fun j => enc.nat 5 j) = true := by kernel_rfl
set_option maxRecDepth 100000 in
theorem w2x0 : ((List.range' 0 10).all fun j => enc.nat 2 j) = true := by kernel_rfl
set_option maxRecDepth 100000 in
theorem w1x0 : ((List.range' 0 10).all fun j => enc.nat 1 j) = true := by kernel_rfl
set_option maxRecDepth 100000 in
theorem w41x0 : ((List.range' 0 9).all fun j => enc.nat 41 j) = true := by kernel_rfl
set_option maxRecDepth 100000 in
theorem w32x2 : ((List.range' 2 2).all fun j => enc.nat 32 j) = true := by kernel_rfl
set_option maxRecDepth 100000 in
theorem w12x0 : ((List.range' 0 9).all fun j => enc.nat 12 j) = true := by kernel_rfl
set_option maxRecDepth 100000 in
theorem w20x0 : ((List.range' 0 9).all fun j => enc.nat 20 j) = true := by kernel_rfl
set_option maxRecDepth 100000 in
theorem w42x0 : ((List.range' 0 2).all fun j => enc.nat 42 j) = true := by kernel_rfl
set_option maxRecDepth 100000 in
theorem c31 : apt.covN 31 = true := by kernel_rfl
set_option maxRecDepth 100000 in
theorem hi : enc.nq wid.knHigh = true := by kernel_rfl
set_option maxRecDepth 100000 in
theorem w37x0 : ((List.range' 0 2).all fun j => enc.nat 37 j) = true := by kernel_rfl
set_option maxRecDepth 100000 in
theorem w39x0 : ((List.range' 0 2).all fun j => enc.nat 39 j) = true := by kernel_rfl
set_option maxRecDepth 100000 in
theorem w43x0 : ((List.range' 0 2).all fun j => enc.nat 43 j) = true := by kernel_rfl
set_option maxRecDepth 100000 in
theorem w17x14 : ((List.range' 14 3).all fun j => enc.nat 17 j) = true := by kernel_rfl
set_option maxRecDepth 100000 in
theorem w36x0 : ((List.range' 0 2).all fun j => enc.nat 36 j) = true := by kernel_rfl
set_option maxRecDepth 100000 in
theorem w21x0 : ((List.range' 0 2).all fun j => enc.nat 21 j) = true := by kernel_rfl
set_option maxRecDepth 100000 in
theorem w23x0 : ((List.range' 0 2).all fun j => enc.nat 23 j) = true := by kernel_rfl
set_option maxRecDepth 100000 in
theorem c2 : apt.covN 2 = true := by kernel_rfl
set_option maxRecDepth 100000 in
theorem c5 : apt.covN 5 = true := by kernel_rfl
set_option maxRecDepth 100000 in
theorem c8 : apt.covN 8 = true := by kernel_rfl
set_option maxRecDepth 100000 in
theorem c11 : apt.covN 11 = true := by kernel_rfl
set_option maxRecDepth 100000 in
theorem c14 : apt.covN 14 = true := by kernel_rfl
set_option maxRecDepth 100000 in
theorem c17 : apt.covN 17 = true := by kernel_rfl
set_option maxRecDepth 100000 in
theorem c20 : apt.covN 20 = true := by kernel_rfl
set_option maxRecDepth 100000 in
theorem c23 : apt.covN 23 = true := by kernel_rfl
set_option maxRecDepth 100000 in
theorem c26 : apt.covN 26 = true := by kernel_rfl
set_option maxRecDepth 100000 in
theorem c29 : apt.covN 29 = true := by kernel_rfl
set_option maxRecDepth 100000 in
theorem c36 : apt.covN 36 = true := by kernel_rfl
set_option maxRecDepth 100000 in
theorem c39 : apt.covN 39 = true := by kernel_rfl
set_option maxRecDepth 100000 in
theorem c42 : apt.covN 42 = true := by kernel_rfl
set_option maxRecDepth 100000 in
theorem c45 : apt.covN 45 = true := by kernel_rfl
end Go.Proofs.YtmaaibffgoanpaaGreatDoor.enn
