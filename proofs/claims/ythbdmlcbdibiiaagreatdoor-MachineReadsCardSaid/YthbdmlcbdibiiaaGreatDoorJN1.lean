/- For the seat: texts joined: EnnP0, EnnP1, EnnP2. -/
import Derived.Test.YthbdmlcbdibiiaaGreatDoorJN0
/- Enn: the walks at some cases of the input. -/
namespace Go.Proofs.YthbdmlcbdibiiaaGreatDoor.enn
open Go.Sx
set_option maxRecDepth 100000
theorem w32x1 : ((List.range' 1 1).all fun j => enc.nat 32 j) = true := by kernel_rfl
set_option maxRecDepth 100000 in
theorem w17x0 : ((List.range' 0 14).all fun j => enc.nat 17 j) = true := by kernel_rfl
set_option maxRecDepth 100000 in
theorem w28x10 : ((List.range' 10 11).all fun j => enc.nat 28 j) = true := by kernel_rfl
set_option maxRecDepth 100000 in
theorem w35x0 : ((List.range' 0 7).all fun j => enc.nat 35 j) = true := by kernel_rfl
set_option maxRecDepth 100000 in
theorem w26x10 : ((List.range' 10 6).all fun j => enc.nat 26 j) = true := by kernel_rfl
set_option maxRecDepth 100000 in
theorem w28x0 : ((List.range' 0 10).all fun j => enc.nat 28 j) = true := by kernel_rfl
set_option maxRecDepth 100000 in
theorem w5x12 : ((List.range' 12 9).all fun j => enc.nat 5 j) = true := by kernel_rfl
set_option maxRecDepth 100000 in
theorem w34x0 : ((List.range' 0 3).all fun j => enc.nat 34 j) = true := by kernel_rfl
set_option maxRecDepth 100000 in
theorem w5x7 : ((List.range' 7 3).all fun j => enc.nat 5 j) = true := by kernel_rfl
set_option maxRecDepth 100000 in
theorem w2x0 : ((List.range' 0 10).all fun j => enc.nat 2 j) = true := by kernel_rfl
set_option maxRecDepth 100000 in
theorem w1x0 : ((List.range' 0 10).all fun j => enc.nat 1 j) = true := by kernel_rfl
set_option maxRecDepth 100000 in
theorem w41x0 : ((List.range' 0 9).all fun j => enc.nat 41 j) = true := by kernel_rfl
set_option maxRecDepth 100000 in
theorem w32x2 : ((List.range' 2 2).all fun j => enc.nat 32 j) = true := by kernel_rfl
set_option maxRecDepth 100000 in
theorem w12x0 : ((List.range' 0 9).all fun j => enc.nat 12 j) = true := by kernel_rfl
set_option maxRecDepth 100000 in
theorem w20x0 : ((List.range' 0 9).all fun j => enc.nat 20 j) = true := by kernel_rfl
set_option maxRecDepth 100000 in
theorem w42x0 : ((List.range' 0 2).all fun j => enc.nat 42 j) = true := by kernel_rfl
set_option maxRecDepth 100000 in
theorem c31 : apt.covN 31 = true := by kernel_rfl
set_option maxRecDepth 100000 in
theorem hi : enc.nq wid.knHigh = true := by kernel_rfl
set_option maxRecDepth 100000 in
theorem w37x0 : ((List.range' 0 2).all fun j => enc.nat 37 j) = true := by kernel_rfl
set_option maxRecDepth 100000 in
theorem w39x0 : ((List.range' 0 2).all fun j => enc.nat 39 j) = true := by kernel_rfl
set_option maxRecDepth 100000 in
theorem w43x0 : ((List.range' 0 2).all fun j => enc.nat 43 j) = true := by kernel_rfl
set_option maxRecDepth 100000 in
theorem w17x14 : ((List.range' 14 3).all fun j => enc.nat 17 j) = true := by kernel_rfl
set_option maxRecDepth 100000 in
theorem w36x0 : ((List.range' 0 2).all fun j => enc.nat 36 j) = true := by kernel_rfl
set_option maxRecDepth 100000 in
theorem w21x0 : ((List.range' 0 2).all fun j => enc.nat 21 j) = true := by kernel_rfl
set_option maxRecDepth 100000 in
theorem w23x0 : ((List.range' 0 2).all fun j => enc.nat 23 j) = true := by kernel_rfl
set_option maxRecDepth 100000 in
theorem c2 : apt.covN 2 = true := by kernel_rfl
set_option maxRecDepth 100000 in
theorem c5 : apt.covN 5 = true := by kernel_rfl
set_option maxRecDepth 100000 in
theorem c8 : apt.covN 8 = true := by kernel_rfl
set_option maxRecDepth 100000 in
theorem c11 : apt.covN 11 = true := by kernel_rfl
set_option maxRecDepth 100000 in
theorem c14 : apt.covN 14 = true := by kernel_rfl
set_option maxRecDepth 100000 in
theorem c17 : apt.covN 17 = true := by kernel_rfl
set_option maxRecDepth 100000 in
theorem c20 : apt.covN 20 = true := by kernel_rfl
set_option maxRecDepth 100000 in
theorem c23 : apt.covN 23 = true := by kernel_rfl
set_option maxRecDepth 100000 in
theorem c26 : apt.covN 26 = true := by kernel_rfl
set_option maxRecDepth 100000 in
theorem c29 : apt.covN 29 = true := by kernel_rfl
set_option maxRecDepth 100000 in
theorem c36 : apt.covN 36 = true := by kernel_rfl
set_option maxRecDepth 100000 in
theorem c39 : apt.covN 39 = true := by kernel_rfl
set_option maxRecDepth 100000 in
theorem c42 : apt.covN 42 = true := by kernel_rfl
set_option maxRecDepth 100000 in
theorem c45 : apt.covN 45 = true := by kernel_rfl
end Go.Proofs.YthbdmlcbdibiiaaGreatDoor.enn
/- Enn: the walks at some cases of the input. -/
namespace Go.Proofs.YthbdmlcbdibiiaaGreatDoor.enn
open Go.Sx
set_option maxRecDepth 100000
theorem w31x1 : ((List.range' 1 1).all fun j => enc.nat 31 j) = true := by kernel_rfl
set_option maxRecDepth 100000 in
theorem w5x11 : ((List.range' 11 1).all fun j => enc.nat 5 j) = true := by kernel_rfl
set_option maxRecDepth 100000 in
theorem w27x0 : ((List.range' 0 10).all fun j => enc.nat 27 j) = true := by kernel_rfl
set_option maxRecDepth 100000 in
theorem w27x10 : ((List.range' 10 6).all fun j => enc.nat 27 j) = true := by kernel_rfl
set_option maxRecDepth 100000 in
theorem w30x0 : ((List.range' 0 12).all fun j => enc.nat 30 j) = true := by kernel_rfl
set_option maxRecDepth 100000 in
theorem w29x10 : ((List.range' 10 9).all fun j => enc.nat 29 j) = true := by kernel_rfl
set_option maxRecDepth 100000 in
theorem w5x0 : ((List.range' 0 7).all fun j => enc.nat 5 j) = true := by kernel_rfl
set_option maxRecDepth 100000 in
theorem w10x0 : ((List.range' 0 13).all fun j => enc.nat 10 j) = true := by kernel_rfl
set_option maxRecDepth 100000 in
theorem w9x0 : ((List.range' 0 10).all fun j => enc.nat 9 j) = true := by kernel_rfl
set_option maxRecDepth 100000 in
theorem w6x0 : ((List.range' 0 10).all fun j => enc.nat 6 j) = true := by kernel_rfl
set_option maxRecDepth 100000 in
theorem w4x0 : ((List.range' 0 10).all fun j => enc.nat 4 j) = true := by kernel_rfl
set_option maxRecDepth 100000 in
theorem w40x0 : ((List.range' 0 9).all fun j => enc.nat 40 j) = true := by kernel_rfl
set_option maxRecDepth 100000 in
theorem w31x2 : ((List.range' 2 2).all fun j => enc.nat 31 j) = true := by kernel_rfl
set_option maxRecDepth 100000 in
theorem w19x0 : ((List.range' 0 10).all fun j => enc.nat 19 j) = true := by kernel_rfl
set_option maxRecDepth 100000 in
theorem w7x10 : ((List.range' 10 1).all fun j => enc.nat 7 j) = true := by kernel_rfl
set_option maxRecDepth 100000 in
theorem w5x10 : ((List.range' 10 1).all fun j => enc.nat 5 j) = true := by kernel_rfl
set_option maxRecDepth 100000 in
theorem w27x16 : ((List.range' 16 4).all fun j => enc.nat 27 j) = true := by kernel_rfl
set_option maxRecDepth 100000 in
theorem lo : enc.nq wid.knLow = true := by kernel_rfl
set_option maxRecDepth 100000 in
theorem w38x0 : ((List.range' 0 2).all fun j => enc.nat 38 j) = true := by kernel_rfl
set_option maxRecDepth 100000 in
theorem w14x0 : ((List.range' 0 6).all fun j => enc.nat 14 j) = true := by kernel_rfl
set_option maxRecDepth 100000 in
theorem w44x0 : ((List.range' 0 2).all fun j => enc.nat 44 j) = true := by kernel_rfl
set_option maxRecDepth 100000 in
theorem c34 : apt.covN 34 = true := by kernel_rfl
set_option maxRecDepth 100000 in
theorem w45x0 : ((List.range' 0 2).all fun j => enc.nat 45 j) = true := by kernel_rfl
set_option maxRecDepth 100000 in
theorem w22x0 : ((List.range' 0 2).all fun j => enc.nat 22 j) = true := by kernel_rfl
set_option maxRecDepth 100000 in
theorem w24x0 : ((List.range' 0 2).all fun j => enc.nat 24 j) = true := by kernel_rfl
set_option maxRecDepth 100000 in
theorem c4 : apt.covN 4 = true := by kernel_rfl
set_option maxRecDepth 100000 in
theorem c7 : apt.covN 7 = true := by kernel_rfl
set_option maxRecDepth 100000 in
theorem c10 : apt.covN 10 = true := by kernel_rfl
set_option maxRecDepth 100000 in
theorem c13 : apt.covN 13 = true := by kernel_rfl
set_option maxRecDepth 100000 in
theorem c16 : apt.covN 16 = true := by kernel_rfl
set_option maxRecDepth 100000 in
theorem c19 : apt.covN 19 = true := by kernel_rfl
set_option maxRecDepth 100000 in
theorem c22 : apt.covN 22 = true := by kernel_rfl
set_option maxRecDepth 100000 in
theorem c25 : apt.covN 25 = true := by kernel_rfl
set_option maxRecDepth 100000 in
theorem c28 : apt.covN 28 = true := by kernel_rfl
set_option maxRecDepth 100000 in
theorem c35 : apt.covN 35 = true := by kernel_rfl
set_option maxRecDepth 100000 in
theorem c38 : apt.covN 38 = true := by kernel_rfl
set_option maxRecDepth 100000 in
theorem c41 : apt.covN 41 = true := by kernel_rfl
set_option maxRecDepth 100000 in
theorem c44 : apt.covN 44 = true := by kernel_rfl
end Go.Proofs.YthbdmlcbdibiiaaGreatDoor.enn
/- Enn: the walks at some cases of the input. -/
namespace Go.Proofs.YthbdmlcbdibiiaaGreatDoor.enn
open Go.Sx
set_option maxRecDepth 100000
theorem w32x0 : ((List.range' 0 1).all fun j => enc.nat 32 j) = true := by kernel_rfl
set_option maxRecDepth 100000 in
theorem w31x0 : ((List.range' 0 1).all fun j => enc.nat 31 j) = true := by kernel_rfl
set_option maxRecDepth 100000 in
theorem w18x0 : ((List.range' 0 14).all fun j => enc.nat 18 j) = true := by kernel_rfl
set_option maxRecDepth 100000 in
theorem w7x11 : ((List.range' 11 5).all fun j => enc.nat 7 j) = true := by kernel_rfl
set_option maxRecDepth 100000 in
theorem w25x0 : ((List.range' 0 13).all fun j => enc.nat 25 j) = true := by kernel_rfl
set_option maxRecDepth 100000 in
theorem w7x0 : ((List.range' 0 10).all fun j => enc.nat 7 j) = true := by kernel_rfl
set_option maxRecDepth 100000 in
theorem w16x0 : ((List.range' 0 13).all fun j => enc.nat 16 j) = true := by kernel_rfl
set_option maxRecDepth 100000 in
theorem w29x0 : ((List.range' 0 10).all fun j => enc.nat 29 j) = true := by kernel_rfl
set_option maxRecDepth 100000 in
theorem w33x0 : ((List.range' 0 3).all fun j => enc.nat 33 j) = true := by kernel_rfl
set_option maxRecDepth 100000 in
theorem w26x0 : ((List.range' 0 10).all fun j => enc.nat 26 j) = true := by kernel_rfl
set_option maxRecDepth 100000 in
theorem w3x0 : ((List.range' 0 10).all fun j => enc.nat 3 j) = true := by kernel_rfl
set_option maxRecDepth 100000 in
theorem w8x0 : ((List.range' 0 10).all fun j => enc.nat 8 j) = true := by kernel_rfl
set_option maxRecDepth 100000 in
theorem w25x13 : ((List.range' 13 9).all fun j => enc.nat 25 j) = true := by kernel_rfl
set_option maxRecDepth 100000 in
theorem w31x4 : ((List.range' 4 1).all fun j => enc.nat 31 j) = true := by kernel_rfl
set_option maxRecDepth 100000 in
theorem w32x4 : ((List.range' 4 1).all fun j => enc.nat 32 j) = true := by kernel_rfl
set_option maxRecDepth 100000 in
theorem w30x12 : ((List.range' 12 8).all fun j => enc.nat 30 j) = true := by kernel_rfl
set_option maxRecDepth 100000 in
theorem w7x16 : ((List.range' 16 5).all fun j => enc.nat 7 j) = true := by kernel_rfl
set_option maxRecDepth 100000 in
theorem c32 : apt.covN 32 = true := by kernel_rfl
set_option maxRecDepth 100000 in
theorem w11x0 : ((List.range' 0 6).all fun j => enc.nat 11 j) = true := by kernel_rfl
set_option maxRecDepth 100000 in
theorem w13x0 : ((List.range' 0 6).all fun j => enc.nat 13 j) = true := by kernel_rfl
set_option maxRecDepth 100000 in
theorem w26x16 : ((List.range' 16 3).all fun j => enc.nat 26 j) = true := by kernel_rfl
set_option maxRecDepth 100000 in
theorem c33 : apt.covN 33 = true := by kernel_rfl
set_option maxRecDepth 100000 in
theorem w18x14 : ((List.range' 14 3).all fun j => enc.nat 18 j) = true := by kernel_rfl
set_option maxRecDepth 100000 in
theorem w15x0 : ((List.range' 0 3).all fun j => enc.nat 15 j) = true := by kernel_rfl
set_option maxRecDepth 100000 in
theorem w28x21 : ((List.range' 21 1).all fun j => enc.nat 28 j) = true := by kernel_rfl
set_option maxRecDepth 100000 in
theorem c1 : apt.covN 1 = true := by kernel_rfl
set_option maxRecDepth 100000 in
theorem c3 : apt.covN 3 = true := by kernel_rfl
set_option maxRecDepth 100000 in
theorem c6 : apt.covN 6 = true := by kernel_rfl
set_option maxRecDepth 100000 in
theorem c9 : apt.covN 9 = true := by kernel_rfl
set_option maxRecDepth 100000 in
theorem c12 : apt.covN 12 = true := by kernel_rfl
set_option maxRecDepth 100000 in
theorem c15 : apt.covN 15 = true := by kernel_rfl
set_option maxRecDepth 100000 in
theorem c18 : apt.covN 18 = true := by kernel_rfl
set_option maxRecDepth 100000 in
theorem c21 : apt.covN 21 = true := by kernel_rfl
set_option maxRecDepth 100000 in
theorem c24 : apt.covN 24 = true := by kernel_rfl
set_option maxRecDepth 100000 in
theorem c27 : apt.covN 27 = true := by kernel_rfl
set_option maxRecDepth 100000 in
theorem c30 : apt.covN 30 = true := by kernel_rfl
set_option maxRecDepth 100000 in
theorem c37 : apt.covN 37 = true := by kernel_rfl
set_option maxRecDepth 100000 in
theorem c40 : apt.covN 40 = true := by kernel_rfl
set_option maxRecDepth 100000 in
theorem c43 : apt.covN 43 = true := by kernel_rfl
end Go.Proofs.YthbdmlcbdibiiaaGreatDoor.enn
