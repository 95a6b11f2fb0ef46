/- For the seat: texts joined: EnvP0, EnvP1, EnvP2. -/
import Derived.Test.YthbdmlcbdibiiaaGreatDoorJN0
/- Env: the walks at some cases of the input. -/
namespace Go.Proofs.YthbdmlcbdibiiaaGreatDoor.env
open Go.Sx
set_option maxRecDepth 100000
theorem w18x2 : ((List.range' 2 1).all fun j => enc.vat 18 j) = true := by kernel_rfl
set_option maxRecDepth 100000 in
theorem w41x2 : ((List.range' 2 1).all fun j => enc.vat 41 j) = true := by kernel_rfl
set_option maxRecDepth 100000 in
theorem w9x1 : ((List.range' 1 1).all fun j => enc.vat 9 j) = true := by kernel_rfl
set_option maxRecDepth 100000 in
theorem w3x1 : ((List.range' 1 1).all fun j => enc.vat 3 j) = true := by kernel_rfl
set_option maxRecDepth 100000 in
theorem w27x1 : ((List.range' 1 1).all fun j => enc.vat 27 j) = true := by kernel_rfl
set_option maxRecDepth 100000 in
theorem w17x0 : ((List.range' 0 2).all fun j => enc.vat 17 j) = true := by kernel_rfl
set_option maxRecDepth 100000 in
theorem w31x1 : ((List.range' 1 1).all fun j => enc.vat 31 j) = true := by kernel_rfl
set_option maxRecDepth 100000 in
theorem w31x7 : ((List.range' 7 1).all fun j => enc.vat 31 j) = true := by kernel_rfl
set_option maxRecDepth 100000 in
theorem w31x13 : ((List.range' 13 1).all fun j => enc.vat 31 j) = true := by kernel_rfl
set_option maxRecDepth 100000 in
theorem w32x3 : ((List.range' 3 1).all fun j => enc.vat 32 j) = true := by kernel_rfl
set_option maxRecDepth 100000 in
theorem w32x9 : ((List.range' 9 1).all fun j => enc.vat 32 j) = true := by kernel_rfl
set_option maxRecDepth 100000 in
theorem w32x15 : ((List.range' 15 1).all fun j => enc.vat 32 j) = true := by kernel_rfl
set_option maxRecDepth 100000 in
theorem w13x0 : ((List.range' 0 4).all fun j => enc.vat 13 j) = true := by kernel_rfl
set_option maxRecDepth 100000 in
theorem w15x0 : ((List.range' 0 4).all fun j => enc.vat 15 j) = true := by kernel_rfl
set_option maxRecDepth 100000 in
theorem w27x2 : ((List.range' 2 1).all fun j => enc.vat 27 j) = true := by kernel_rfl
set_option maxRecDepth 100000 in
theorem w25x2 : ((List.range' 2 1).all fun j => enc.vat 25 j) = true := by kernel_rfl
set_option maxRecDepth 100000 in
theorem w41x0 : ((List.range' 0 2).all fun j => enc.vat 41 j) = true := by kernel_rfl
set_option maxRecDepth 100000 in
theorem w19x0 : ((List.range' 0 1).all fun j => enc.vat 19 j) = true := by kernel_rfl
set_option maxRecDepth 100000 in
theorem w43x0 : ((List.range' 0 2).all fun j => enc.vat 43 j) = true := by kernel_rfl
set_option maxRecDepth 100000 in
theorem c6 : apt.covV 6 = true := by kernel_rfl
set_option maxRecDepth 100000 in
theorem c12 : apt.covV 12 = true := by kernel_rfl
set_option maxRecDepth 100000 in
theorem c18 : apt.covV 18 = true := by kernel_rfl
set_option maxRecDepth 100000 in
theorem c24 : apt.covV 24 = true := by kernel_rfl
set_option maxRecDepth 100000 in
theorem c30 : apt.covV 30 = true := by kernel_rfl
set_option maxRecDepth 100000 in
theorem c40 : apt.covV 40 = true := by kernel_rfl
set_option maxRecDepth 100000 in
theorem w2x0 : ((List.range' 0 1).all fun j => enc.vat 2 j) = true := by kernel_rfl
set_option maxRecDepth 100000 in
theorem w9x0 : ((List.range' 0 1).all fun j => enc.vat 9 j) = true := by kernel_rfl
set_option maxRecDepth 100000 in
theorem w2x2 : ((List.range' 2 1).all fun j => enc.vat 2 j) = true := by kernel_rfl
end Go.Proofs.YthbdmlcbdibiiaaGreatDoor.env
/- Env: the walks at some cases of the input. -/
namespace Go.Proofs.YthbdmlcbdibiiaaGreatDoor.env
open Go.Sx
set_option maxRecDepth 100000
theorem w19x2 : ((List.range' 2 1).all fun j => enc.vat 19 j) = true := by kernel_rfl
set_option maxRecDepth 100000 in
theorem w4x3 : ((List.range' 3 1).all fun j => enc.vat 4 j) = true := by kernel_rfl
set_option maxRecDepth 100000 in
theorem w2x1 : ((List.range' 1 1).all fun j => enc.vat 2 j) = true := by kernel_rfl
set_option maxRecDepth 100000 in
theorem w6x1 : ((List.range' 1 1).all fun j => enc.vat 6 j) = true := by kernel_rfl
set_option maxRecDepth 100000 in
theorem w33x0 : ((List.range' 0 2).all fun j => enc.vat 33 j) = true := by kernel_rfl
set_option maxRecDepth 100000 in
theorem w16x0 : ((List.range' 0 2).all fun j => enc.vat 16 j) = true := by kernel_rfl
set_option maxRecDepth 100000 in
theorem w35x3 : ((List.range' 3 2).all fun j => enc.vat 35 j) = true := by kernel_rfl
set_option maxRecDepth 100000 in
theorem w31x6 : ((List.range' 6 1).all fun j => enc.vat 31 j) = true := by kernel_rfl
set_option maxRecDepth 100000 in
theorem w31x12 : ((List.range' 12 1).all fun j => enc.vat 31 j) = true := by kernel_rfl
set_option maxRecDepth 100000 in
theorem w32x2 : ((List.range' 2 1).all fun j => enc.vat 32 j) = true := by kernel_rfl
set_option maxRecDepth 100000 in
theorem w32x7 : ((List.range' 7 1).all fun j => enc.vat 32 j) = true := by kernel_rfl
set_option maxRecDepth 100000 in
theorem w32x13 : ((List.range' 13 1).all fun j => enc.vat 32 j) = true := by kernel_rfl
set_option maxRecDepth 100000 in
theorem w34x1 : ((List.range' 1 1).all fun j => enc.vat 34 j) = true := by kernel_rfl
set_option maxRecDepth 100000 in
theorem c31 : apt.covV 31 = true := by kernel_rfl
set_option maxRecDepth 100000 in
theorem w29x2 : ((List.range' 2 1).all fun j => enc.vat 29 j) = true := by kernel_rfl
set_option maxRecDepth 100000 in
theorem hi : enc.vq wid.knHigh = true := by kernel_rfl
set_option maxRecDepth 100000 in
theorem c34 : apt.covV 34 = true := by kernel_rfl
set_option maxRecDepth 100000 in
theorem w30x0 : ((List.range' 0 1).all fun j => enc.vat 30 j) = true := by kernel_rfl
set_option maxRecDepth 100000 in
theorem w42x0 : ((List.range' 0 2).all fun j => enc.vat 42 j) = true := by kernel_rfl
set_option maxRecDepth 100000 in
theorem c5 : apt.covV 5 = true := by kernel_rfl
set_option maxRecDepth 100000 in
theorem c11 : apt.covV 11 = true := by kernel_rfl
set_option maxRecDepth 100000 in
theorem c17 : apt.covV 17 = true := by kernel_rfl
set_option maxRecDepth 100000 in
theorem c23 : apt.covV 23 = true := by kernel_rfl
set_option maxRecDepth 100000 in
theorem c29 : apt.covV 29 = true := by kernel_rfl
set_option maxRecDepth 100000 in
theorem c39 : apt.covV 39 = true := by kernel_rfl
set_option maxRecDepth 100000 in
theorem c45 : apt.covV 45 = true := by kernel_rfl
set_option maxRecDepth 100000 in
theorem w8x0 : ((List.range' 0 1).all fun j => enc.vat 8 j) = true := by kernel_rfl
set_option maxRecDepth 100000 in
theorem w1x2 : ((List.range' 2 1).all fun j => enc.vat 1 j) = true := by kernel_rfl
set_option maxRecDepth 100000 in
theorem w8x2 : ((List.range' 2 1).all fun j => enc.vat 8 j) = true := by kernel_rfl
end Go.Proofs.YthbdmlcbdibiiaaGreatDoor.env
/- Env: the walks at some cases of the input. -/
namespace Go.Proofs.YthbdmlcbdibiiaaGreatDoor.env
open Go.Sx
set_option maxRecDepth 100000
theorem w17x2 : ((List.range' 2 1).all fun j => enc.vat 17 j) = true := by kernel_rfl
set_option maxRecDepth 100000 in
theorem w1x3 : ((List.range' 3 1).all fun j => enc.vat 1 j) = true := by kernel_rfl
set_option maxRecDepth 100000 in
theorem w18x1 : ((List.range' 1 1).all fun j => enc.vat 18 j) = true := by kernel_rfl
set_option maxRecDepth 100000 in
theorem w8x1 : ((List.range' 1 1).all fun j => enc.vat 8 j) = true := by kernel_rfl
set_option maxRecDepth 100000 in
theorem w17x3 : ((List.range' 3 1).all fun j => enc.vat 17 j) = true := by kernel_rfl
set_option maxRecDepth 100000 in
theorem w29x1 : ((List.range' 1 1).all fun j => enc.vat 29 j) = true := by kernel_rfl
set_option maxRecDepth 100000 in
theorem w22x0 : ((List.range' 0 2).all fun j => enc.vat 22 j) = true := by kernel_rfl
set_option maxRecDepth 100000 in
theorem w31x4 : ((List.range' 4 1).all fun j => enc.vat 31 j) = true := by kernel_rfl
set_option maxRecDepth 100000 in
theorem w31x10 : ((List.range' 10 1).all fun j => enc.vat 31 j) = true := by kernel_rfl
set_option maxRecDepth 100000 in
theorem w21x0 : ((List.range' 0 2).all fun j => enc.vat 21 j) = true := by kernel_rfl
set_option maxRecDepth 100000 in
theorem w32x8 : ((List.range' 8 1).all fun j => enc.vat 32 j) = true := by kernel_rfl
set_option maxRecDepth 100000 in
theorem w32x14 : ((List.range' 14 1).all fun j => enc.vat 32 j) = true := by kernel_rfl
set_option maxRecDepth 100000 in
theorem w40x0 : ((List.range' 0 3).all fun j => enc.vat 40 j) = true := by kernel_rfl
set_option maxRecDepth 100000 in
theorem c32 : apt.covV 32 = true := by kernel_rfl
set_option maxRecDepth 100000 in
theorem w30x2 : ((List.range' 2 1).all fun j => enc.vat 30 j) = true := by kernel_rfl
set_option maxRecDepth 100000 in
theorem w23x0 : ((List.range' 0 2).all fun j => enc.vat 23 j) = true := by kernel_rfl
set_option maxRecDepth 100000 in
theorem c33 : apt.covV 33 = true := by kernel_rfl
set_option maxRecDepth 100000 in
theorem w29x0 : ((List.range' 0 1).all fun j => enc.vat 29 j) = true := by kernel_rfl
set_option maxRecDepth 100000 in
theorem w3x0 : ((List.range' 0 1).all fun j => enc.vat 3 j) = true := by kernel_rfl
set_option maxRecDepth 100000 in
theorem c4 : apt.covV 4 = true := by kernel_rfl
set_option maxRecDepth 100000 in
theorem c10 : apt.covV 10 = true := by kernel_rfl
set_option maxRecDepth 100000 in
theorem c16 : apt.covV 16 = true := by kernel_rfl
set_option maxRecDepth 100000 in
theorem c22 : apt.covV 22 = true := by kernel_rfl
set_option maxRecDepth 100000 in
theorem c28 : apt.covV 28 = true := by kernel_rfl
set_option maxRecDepth 100000 in
theorem c38 : apt.covV 38 = true := by kernel_rfl
set_option maxRecDepth 100000 in
theorem c44 : apt.covV 44 = true := by kernel_rfl
set_option maxRecDepth 100000 in
theorem w7x0 : ((List.range' 0 1).all fun j => enc.vat 7 j) = true := by kernel_rfl
set_option maxRecDepth 100000 in
theorem w3x2 : ((List.range' 2 1).all fun j => enc.vat 3 j) = true := by kernel_rfl
set_option maxRecDepth 100000 in
theorem w9x2 : ((List.range' 2 1).all fun j => enc.vat 9 j) = true := by kernel_rfl
end Go.Proofs.YthbdmlcbdibiiaaGreatDoor.env
