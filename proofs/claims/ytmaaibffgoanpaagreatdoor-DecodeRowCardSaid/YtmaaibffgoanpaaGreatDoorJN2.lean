/- For the seat: texts joined: EnnP2. -/
import Derived.Test.YtmaaibffgoanpaaGreatDoorJC1
/- Enn: the walks at some cases of the input. -/
namespace Go.Proofs.YtmaaibffgoanpaaGreatDoor.enn
open Go.Sx
set_option maxRecDepth 100000
theorem w32x0 : ((List.range' 0 1).all fun j => enc.nat 32 j) = true := by kernel_rfl
set_option maxRecDepth 100000 in
theorem w31x0 : ((List.range' 0 1).all fun j => enc.nat 31 j) = true := by kernel_rfl
set_option maxRecDepth 100000 in
theorem w18x0 : ((List.range' 0 14).all fun j => enc.nat 18 j) = true := by kernel_rfl
set_option maxRecDepth 100000 in
theorem w7x11 : ((List.range' 11 5).all fun j => enc.nat 7 j) = true := by kernel_rfl
set_option maxRecDepth 100000 in
theorem w25x0 : ((List.range' 0 13).all fun j => enc.nat 25 j) = true := by kernel_rfl
set_option maxRecDepth 100000 in
theorem w7x0 : ((List.range' 0 10).all fun j => enc.nat 7 j) = true := by kernel_rfl
set_option maxRecDepth 100000 in
theorem w16x0 : ((List.range' 0 13).all fun j => enc.nat 16 j) = true := by kernel_rfl
set_option maxRecDepth 100000 in
theorem w29x0 : ((List.range' 0 10).all fun j => enc.nat 29 j) = true := by kernel_rfl
set_option maxRecDepth 100000 in
theorem w33x0 : ((List.range' 0 3).all fun j => enc.nat 33 j) = true := by kernel_rfl
set_option maxRecDepth 100000 in
theorem w26x0 : ((List.range' 0 10).all fun j => enc.nat 26 j) = true := by kernel_rfl
set_option maxRecDepth 100000 in
theorem w3x0 : ((List.range' 0 10).all fun j => enc.nat 3 j) = true := by kernel_rfl
set_option maxRecDepth 100000 in
theorem w8x0 : ((List.range' 0 10).all fun j => enc.nat 8 j) = true := by kernel_rfl
set_option maxRecDepth 100000 in
theorem w25x13 : ((List.range' 13 9).all fun j => enc.nat 25 j) = true := by kernel_rfl
set_option maxRecDepth 100000 in
theorem w31x4 : ((List.range' 4 1).all fun j => enc.nat 31 j) = true := by kernel_rfl
set_option maxRecDepth 100000 in
theorem w32x4 : ((List.range' 4 1).all fun j => enc.nat 32 j) = true := by kernel_rfl
set_option maxRecDepth 100000 in
theorem w30x12 : ((List.range' 12 8).all fun j => enc.nat 30 j) = true := by kernel_rfl
set_option maxRecDepth 100000 in
theorem w7x16 : ((List.range' 16 5).all fun j => enc.nat 7 j) = true := by kernel_rfl
set_option maxRecDepth 100000 in
theorem c32 : apt.covN 32 = true := by kernel_rfl
set_option maxRecDepth 100000 in
theorem w11x0 : ((List.range' 0 6).all fun j => enc.nat 11 j) = true := by kernel_rfl
set_option maxRecDepth 100000 in
theorem w13x0 : ((List.range' 0 6).all fun j => enc.nat 13 j) = true := by kernel_rfl
set_option maxRecDepth 100000 in
theorem w26x16 : ((List.range' 16 3).all fun j => enc.nat 26 j) = true := by kernel_rfl
set_option maxRecDepth 100000 in
theorem c33 : apt.covN 33 = true := by kernel_rfl
set_option maxRecDepth 100000 in
theorem w18x14 : ((List.range' 14 3).all fun j => enc.nat 18 j) = true := by kernel_rfl
set_option maxRecDepth 100000 in
theorem w15x0 : ((List.range' 0 3).all fun j => enc.nat 15 j) = true := by kernel_rfl
set_option maxRecDepth 100000 in
theorem w28x21 : ((List.range' 21 1).all fun j => enc.nat 28 j) = true := by kernel_rfl
set_option maxRecDepth 100000 in
theorem c1 : apt.covN 1 = true := by kernel_rfl
set_option maxRecDepth 100000 in
theorem c3 : apt.covN 3 = true := by kernel_rfl
set_option maxRecDepth 100000 in
theorem c6 : apt.covN 6 = true := by kernel_rfl
set_option maxRecDepth 100000 in
theorem c9 : apt.covN 9 = true := by kernel_rfl
set_option maxRecDepth 100000 in
theorem c12 : apt.covN 12 = true := by kernel_rfl
set_option maxRecDepth 100000 in
theorem c15 : apt.covN 15 = true := by kernel_rfl
set_option maxRecDepth 100000 in
theorem c18 : apt.covN 18 = true := by kernel_rfl
set_option maxRecDepth 100000 in
theorem c21 : apt.covN 21 = true := by kernel_rfl
set_option maxRecDepth 100000 in
theorem c24 : apt.covN 24 = true := by kernel_rfl
set_option maxRecDepth 100000 in
theorem c27 : apt.covN 27 = true := by kernel_rfl
set_option maxRecDepth 100000 in
theorem c30 : apt.covN 30 = true := by kernel_rfl
set_option maxRecDepth 100000 in
theorem c37 : apt.covN 37 = true := by kernel_rfl
set_option maxRecDepth 100000 in
theorem c40 : apt.covN 40 = true := by kernel_rfl
set_option maxRecDepth 100000 in
theorem c43 : apt.covN 43 = true := by kernel_rfl
end Go.Proofs.YtmaaibffgoanpaaGreatDoor.enn
