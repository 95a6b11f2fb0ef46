/- For the seat: texts joined: EnvP3, EnvP4, EnvP5. -/
import Derived.Test.YthbdmlcbdibiiaaGreatDoorJN0
/- Env: the walks at some cases of the input. -/
namespace Go.Proofs.YthbdmlcbdibiiaaGreatDoor.env
open Go.Sx
set_option maxRecDepth 100000
theorem w16x2 : ((List.range' 2 1).all fun j => enc.vat 16 j) = true := by kernel_rfl
set_option maxRecDepth 100000 in
theorem w8x3 : ((List.range' 3 1).all fun j => enc.vat 8 j) = true := by kernel_rfl
set_option maxRecDepth 100000 in
theorem w19x1 : ((List.range' 1 1).all fun j => enc.vat 19 j) = true := by kernel_rfl
set_option maxRecDepth 100000 in
theorem w7x1 : ((List.range' 1 1).all fun j => enc.vat 7 j) = true := by kernel_rfl
set_option maxRecDepth 100000 in
theorem w4x1 : ((List.range' 1 1).all fun j => enc.vat 4 j) = true := by kernel_rfl
set_option maxRecDepth 100000 in
theorem w28x0 : ((List.range' 0 2).all fun j => enc.vat 28 j) = true := by kernel_rfl
set_option maxRecDepth 100000 in
theorem w26x1 : ((List.range' 1 1).all fun j => enc.vat 26 j) = true := by kernel_rfl
set_option maxRecDepth 100000 in
theorem w20x0 : ((List.range' 0 2).all fun j => enc.vat 20 j) = true := by kernel_rfl
set_option maxRecDepth 100000 in
theorem w31x5 : ((List.range' 5 1).all fun j => enc.vat 31 j) = true := by kernel_rfl
set_option maxRecDepth 100000 in
theorem w31x11 : ((List.range' 11 1).all fun j => enc.vat 31 j) = true := by kernel_rfl
set_option maxRecDepth 100000 in
theorem w32x1 : ((List.range' 1 1).all fun j => enc.vat 32 j) = true := by kernel_rfl
set_option maxRecDepth 100000 in
theorem w32x6 : ((List.range' 6 1).all fun j => enc.vat 32 j) = true := by kernel_rfl
set_option maxRecDepth 100000 in
theorem w32x12 : ((List.range' 12 1).all fun j => enc.vat 32 j) = true := by kernel_rfl
set_option maxRecDepth 100000 in
theorem w18x3 : ((List.range' 3 1).all fun j => enc.vat 18 j) = true := by kernel_rfl
set_option maxRecDepth 100000 in
theorem w34x0 : ((List.range' 0 1).all fun j => enc.vat 34 j) = true := by kernel_rfl
set_option maxRecDepth 100000 in
theorem w11x0 : ((List.range' 0 3).all fun j => enc.vat 11 j) = true := by kernel_rfl
set_option maxRecDepth 100000 in
theorem w26x2 : ((List.range' 2 1).all fun j => enc.vat 26 j) = true := by kernel_rfl
set_option maxRecDepth 100000 in
theorem w25x0 : ((List.range' 0 1).all fun j => enc.vat 25 j) = true := by kernel_rfl
set_option maxRecDepth 100000 in
theorem w27x0 : ((List.range' 0 1).all fun j => enc.vat 27 j) = true := by kernel_rfl
set_option maxRecDepth 100000 in
theorem c3 : apt.covV 3 = true := by kernel_rfl
set_option maxRecDepth 100000 in
theorem c9 : apt.covV 9 = true := by kernel_rfl
set_option maxRecDepth 100000 in
theorem c15 : apt.covV 15 = true := by kernel_rfl
set_option maxRecDepth 100000 in
theorem c21 : apt.covV 21 = true := by kernel_rfl
set_option maxRecDepth 100000 in
theorem c27 : apt.covV 27 = true := by kernel_rfl
set_option maxRecDepth 100000 in
theorem c37 : apt.covV 37 = true := by kernel_rfl
set_option maxRecDepth 100000 in
theorem c43 : apt.covV 43 = true := by kernel_rfl
set_option maxRecDepth 100000 in
theorem w6x0 : ((List.range' 0 1).all fun j => enc.vat 6 j) = true := by kernel_rfl
set_option maxRecDepth 100000 in
theorem w44x0 : ((List.range' 0 2).all fun j => enc.vat 44 j) = true := by kernel_rfl
set_option maxRecDepth 100000 in
theorem w39x0 : ((List.range' 0 2).all fun j => enc.vat 39 j) = true := by kernel_rfl
end Go.Proofs.YthbdmlcbdibiiaaGreatDoor.env
/- Env: the walks at some cases of the input. -/
namespace Go.Proofs.YthbdmlcbdibiiaaGreatDoor.env
open Go.Sx
set_option maxRecDepth 100000
theorem w2x3 : ((List.range' 3 1).all fun j => enc.vat 2 j) = true := by kernel_rfl
set_option maxRecDepth 100000 in
theorem w7x6 : ((List.range' 6 1).all fun j => enc.vat 7 j) = true := by kernel_rfl
set_option maxRecDepth 100000 in
theorem w9x3 : ((List.range' 3 1).all fun j => enc.vat 9 j) = true := by kernel_rfl
set_option maxRecDepth 100000 in
theorem w5x1 : ((List.range' 1 1).all fun j => enc.vat 5 j) = true := by kernel_rfl
set_option maxRecDepth 100000 in
theorem w32x0 : ((List.range' 0 1).all fun j => enc.vat 32 j) = true := by kernel_rfl
set_option maxRecDepth 100000 in
theorem w30x1 : ((List.range' 1 1).all fun j => enc.vat 30 j) = true := by kernel_rfl
set_option maxRecDepth 100000 in
theorem w7x2 : ((List.range' 2 4).all fun j => enc.vat 7 j) = true := by kernel_rfl
set_option maxRecDepth 100000 in
theorem w31x3 : ((List.range' 3 1).all fun j => enc.vat 31 j) = true := by kernel_rfl
set_option maxRecDepth 100000 in
theorem w31x9 : ((List.range' 9 1).all fun j => enc.vat 31 j) = true := by kernel_rfl
set_option maxRecDepth 100000 in
theorem w31x15 : ((List.range' 15 1).all fun j => enc.vat 31 j) = true := by kernel_rfl
set_option maxRecDepth 100000 in
theorem w32x5 : ((List.range' 5 1).all fun j => enc.vat 32 j) = true := by kernel_rfl
set_option maxRecDepth 100000 in
theorem w32x11 : ((List.range' 11 1).all fun j => enc.vat 32 j) = true := by kernel_rfl
set_option maxRecDepth 100000 in
theorem w11x3 : ((List.range' 3 1).all fun j => enc.vat 11 j) = true := by kernel_rfl
set_option maxRecDepth 100000 in
theorem w14x0 : ((List.range' 0 4).all fun j => enc.vat 14 j) = true := by kernel_rfl
set_option maxRecDepth 100000 in
theorem w10x0 : ((List.range' 0 3).all fun j => enc.vat 10 j) = true := by kernel_rfl
set_option maxRecDepth 100000 in
theorem w35x0 : ((List.range' 0 2).all fun j => enc.vat 35 j) = true := by kernel_rfl
set_option maxRecDepth 100000 in
theorem w24x0 : ((List.range' 0 2).all fun j => enc.vat 24 j) = true := by kernel_rfl
set_option maxRecDepth 100000 in
theorem w45x0 : ((List.range' 0 2).all fun j => enc.vat 45 j) = true := by kernel_rfl
set_option maxRecDepth 100000 in
theorem w26x0 : ((List.range' 0 1).all fun j => enc.vat 26 j) = true := by kernel_rfl
set_option maxRecDepth 100000 in
theorem w1x0 : ((List.range' 0 1).all fun j => enc.vat 1 j) = true := by kernel_rfl
set_option maxRecDepth 100000 in
theorem c2 : apt.covV 2 = true := by kernel_rfl
set_option maxRecDepth 100000 in
theorem c8 : apt.covV 8 = true := by kernel_rfl
set_option maxRecDepth 100000 in
theorem c14 : apt.covV 14 = true := by kernel_rfl
set_option maxRecDepth 100000 in
theorem c20 : apt.covV 20 = true := by kernel_rfl
set_option maxRecDepth 100000 in
theorem c26 : apt.covV 26 = true := by kernel_rfl
set_option maxRecDepth 100000 in
theorem c36 : apt.covV 36 = true := by kernel_rfl
set_option maxRecDepth 100000 in
theorem c42 : apt.covV 42 = true := by kernel_rfl
set_option maxRecDepth 100000 in
theorem w5x0 : ((List.range' 0 1).all fun j => enc.vat 5 j) = true := by kernel_rfl
set_option maxRecDepth 100000 in
theorem w38x0 : ((List.range' 0 2).all fun j => enc.vat 38 j) = true := by kernel_rfl
set_option maxRecDepth 100000 in
theorem w6x2 : ((List.range' 2 1).all fun j => enc.vat 6 j) = true := by kernel_rfl
end Go.Proofs.YthbdmlcbdibiiaaGreatDoor.env
/- Env: the walks at some cases of the input. -/
namespace Go.Proofs.YthbdmlcbdibiiaaGreatDoor.env
open Go.Sx
set_option maxRecDepth 100000
theorem w6x3 : ((List.range' 3 1).all fun j => enc.vat 6 j) = true := by kernel_rfl
set_option maxRecDepth 100000 in
theorem w3x3 : ((List.range' 3 1).all fun j => enc.vat 3 j) = true := by kernel_rfl
set_option maxRecDepth 100000 in
theorem w5x6 : ((List.range' 6 1).all fun j => enc.vat 5 j) = true := by kernel_rfl
set_option maxRecDepth 100000 in
theorem w1x1 : ((List.range' 1 1).all fun j => enc.vat 1 j) = true := by kernel_rfl
set_option maxRecDepth 100000 in
theorem w31x0 : ((List.range' 0 1).all fun j => enc.vat 31 j) = true := by kernel_rfl
set_option maxRecDepth 100000 in
theorem w35x2 : ((List.range' 2 1).all fun j => enc.vat 35 j) = true := by kernel_rfl
set_option maxRecDepth 100000 in
theorem w25x1 : ((List.range' 1 1).all fun j => enc.vat 25 j) = true := by kernel_rfl
set_option maxRecDepth 100000 in
theorem w31x2 : ((List.range' 2 1).all fun j => enc.vat 31 j) = true := by kernel_rfl
set_option maxRecDepth 100000 in
theorem w31x8 : ((List.range' 8 1).all fun j => enc.vat 31 j) = true := by kernel_rfl
set_option maxRecDepth 100000 in
theorem w31x14 : ((List.range' 14 1).all fun j => enc.vat 31 j) = true := by kernel_rfl
set_option maxRecDepth 100000 in
theorem w32x4 : ((List.range' 4 1).all fun j => enc.vat 32 j) = true := by kernel_rfl
set_option maxRecDepth 100000 in
theorem w32x10 : ((List.range' 10 1).all fun j => enc.vat 32 j) = true := by kernel_rfl
set_option maxRecDepth 100000 in
theorem w10x3 : ((List.range' 3 1).all fun j => enc.vat 10 j) = true := by kernel_rfl
set_option maxRecDepth 100000 in
theorem w5x2 : ((List.range' 2 4).all fun j => enc.vat 5 j) = true := by kernel_rfl
set_option maxRecDepth 100000 in
theorem w12x0 : ((List.range' 0 4).all fun j => enc.vat 12 j) = true := by kernel_rfl
set_option maxRecDepth 100000 in
theorem w28x2 : ((List.range' 2 1).all fun j => enc.vat 28 j) = true := by kernel_rfl
set_option maxRecDepth 100000 in
theorem lo : enc.vq wid.knLow = true := by kernel_rfl
set_option maxRecDepth 100000 in
theorem w36x0 : ((List.range' 0 2).all fun j => enc.vat 36 j) = true := by kernel_rfl
set_option maxRecDepth 100000 in
theorem w18x0 : ((List.range' 0 1).all fun j => enc.vat 18 j) = true := by kernel_rfl
set_option maxRecDepth 100000 in
theorem c1 : apt.covV 1 = true := by kernel_rfl
set_option maxRecDepth 100000 in
theorem c7 : apt.covV 7 = true := by kernel_rfl
set_option maxRecDepth 100000 in
theorem c13 : apt.covV 13 = true := by kernel_rfl
set_option maxRecDepth 100000 in
theorem c19 : apt.covV 19 = true := by kernel_rfl
set_option maxRecDepth 100000 in
theorem c25 : apt.covV 25 = true := by kernel_rfl
set_option maxRecDepth 100000 in
theorem c35 : apt.covV 35 = true := by kernel_rfl
set_option maxRecDepth 100000 in
theorem c41 : apt.covV 41 = true := by kernel_rfl
set_option maxRecDepth 100000 in
theorem w4x0 : ((List.range' 0 1).all fun j => enc.vat 4 j) = true := by kernel_rfl
set_option maxRecDepth 100000 in
theorem w37x0 : ((List.range' 0 2).all fun j => enc.vat 37 j) = true := by kernel_rfl
set_option maxRecDepth 100000 in
theorem w4x2 : ((List.range' 2 1).all fun j => enc.vat 4 j) = true := by kernel_rfl
end Go.Proofs.YthbdmlcbdibiiaaGreatDoor.env
