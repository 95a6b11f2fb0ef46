/- For the seat: texts joined: EnnP1. -/
import Derived.Test.YtmaaibffgoanpaaGreatDoorJC1
/- Enn: the walks at some cases of the input. -/
namespace Go.Proofs.YtmaaibffgoanpaaGreatDoor.enn
open Go.Sx
set_option maxRecDepth 100000
theorem w31x1 : ((List.range' 1 1).all fun j => enc.nat 31 j) = true := by kernel_rfl
set_option maxRecDepth 100000 in
theorem w5x11 : ((List.range' 11 1).all fun j => enc.nat 5 j) = true := by kernel_rfl
set_option maxRecDepth 100000 in
theorem w27x0 : ((List.range' 0 10).all fun j => enc.nat 27 j) = true := by kernel_rfl
set_option maxRecDepth 100000 in
theorem w27x10 : ((List.range' 10 6).all fun j => enc.nat 27 j) = true := by kernel_rfl
set_option maxRecDepth 100000 in
theorem w30x0 : ((List.range' 0 12).all fun j => enc.nat 30 j) = true := by kernel_rfl
set_option maxRecDepth 100000 in
theorem w29x10 : ((List.range' 10 9).all fun j => enc.nat 29 j) = true := by kernel_rfl
set_option maxRecDepth 100000 in
theorem w5x0 : ((List.range' 0 7).all fun j => enc.nat 5 j) = true := by kernel_rfl
set_option maxRecDepth 100000 in
theorem w10x0 : ((List.range' 0 13).all fun j => enc.nat 10 j) = true := by kernel_rfl
set_option maxRecDepth 100000 in
theorem w9x0 : ((List.range' 0 10).all fun j => enc.nat 9 j) = true := by kernel_rfl
set_option maxRecDepth 100000 in
theorem w6x0 : ((List.range' 0 10).all fun j => enc.nat 6 j) = true := by kernel_rfl
set_option maxRecDepth 100000 in
theorem w4x0 : ((List.range' 0 10).all fun j => enc.nat 4 j) = true := by kernel_rfl
set_option maxRecDepth 100000 in
theorem w40x0 : ((List.range' 0 9).all fun j => enc.nat 40 j) = true := by kernel_rfl
set_option maxRecDepth 100000 in
theorem w31x2 : ((List.range' 2 2).all fun j => enc.nat 31 j) = true := by kernel_rfl
set_option maxRecDepth 100000 in
theorem w19x0 : ((List.range' 0 10).all fun j => enc.nat 19 j) = true := by kernel_rfl
set_option maxRecDepth 100000 in
theorem w7x10 : ((List.range' 10 1).all fun j => enc.nat 7 j) = true := by kernel_rfl
set_option maxRecDepth 100000 in
theorem w5x10 : ((List.range' 10 1).all fun j => enc.nat 5 j) = true := by kernel_rfl
set_option maxRecDepth 100000 in
theorem w27x16 : ((List.range' 16 4).all fun j => enc.nat 27 j) = true := by kernel_rfl
set_option maxRecDepth 100000 in
theorem lo : enc.nq wid.knLow = true := by kernel_rfl
set_option maxRecDepth 100000 in
theorem w38x0 : ((List.range' 0 2).all fun j => enc.nat 38 j) = true := by kernel_rfl
set_option maxRecDepth 100000 in
theorem w14x0 : ((List.range' 0 6).all fun j => enc.nat 14 j) = true := by kernel_rfl
set_option maxRecDepth 100000 in
theorem w44x0 : ((List.range' 0 2).all fun j => enc.nat 44 j) = true := by kernel_rfl
set_option maxRecDepth 100000 in
theorem c34 : apt.covN 34 = true := by kernel_rfl
set_option maxRecDepth 100000 in
theorem w45x0 : ((List.range' 0 2).all fun j => enc.nat 45 j) = true := by kernel_rfl
set_option maxRecDepth 100000 in
theorem w22x0 : ((List.range' 0 2).all fun j => enc.nat 22 j) = true := by kernel_rfl
set_option maxRecDepth 100000 in
theorem w24x0 : ((List.range' 0 2).all fun j => enc.nat 24 j) = true := by kernel_rfl
set_option maxRecDepth 100000 in
theorem c4 : apt.covN 4 = true := by kernel_rfl
set_option maxRecDepth 100000 in
theorem c7 : apt.covN 7 = true := by kernel_rfl
set_option maxRecDepth 100000 in
theorem c10 : apt.covN 10 = true := by kernel_rfl
set_option maxRecDepth 100000 in
theorem c13 : apt.covN 13 = true := by kernel_rfl
set_option maxRecDepth 100000 in
theorem c16 : apt.covN 16 = true := by kernel_rfl
set_option maxRecDepth 100000 in
theorem c19 : apt.covN 19 = true := by kernel_rfl
set_option maxRecDepth 100000 in
theorem c22 : apt.covN 22 = true := by kernel_rfl
set_option maxRecDepth 100000 in
theorem c25 : apt.covN 25 = true := by kernel_rfl
set_option maxRecDepth 100000 in
theorem c28 : apt.covN 28 = true := by kernel_rfl
set_option maxRecDepth 100000 in
theorem c35 : apt.covN 35 = true := by kernel_rfl
set_option maxRecDepth 100000 in
theorem c38 : apt.covN 38 = true := by kernel_rfl
set_option maxRecDepth 100000 in
theorem c41 : apt.covN 41 = true := by kernel_rfl
set_option maxRecDepth 100000 in
theorem c44 : apt.covN 44 = true := by kernel_rfl
end Go.Proofs.YtmaaibffgoanpaaGreatDoor.enn
