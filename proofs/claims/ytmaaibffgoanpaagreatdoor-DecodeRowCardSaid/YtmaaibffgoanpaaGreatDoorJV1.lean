/- For the seat: texts joined: EnvP1. -/
import Derived.Test.YtmaaibffgoanpaaGreatDoorJC1
/- Env: the walks at some cases of the input. -/
namespace Go.Proofs.YtmaaibffgoanpaaGreatDoor.env
open Go.Sx
set_option maxRecDepth 100000
theorem w19x2 : ((List.range' 2 1).all fun j => enc.vat 19 j) = true := by kernel_rfl
set_option maxRecDepth 100000 in
theorem w4x3 : ((List.range' 3 1).all fun j => enc.vat 4 j) = true := by kernel_rfl
set_option maxRecDepth 100000 in
theorem w2x1 : ((List.range' 1 1).all fun j => enc.vat 2 j) = true := by kernel_rfl
set_option maxRecDepth 100000 in
theorem w6x1 : ((List.range' 1 1).all fun j => enc.vat 6 j) = true := by kernel_rfl
set_option maxRecDepth 100000 in
theorem w33x0 : ((List.range' 0 2).all fun j => enc.vat 33 j) = true := by kernel_rfl
set_option maxRecDepth 100000 in
theorem w16x0 : ((List.range' 0 2).all fun j => enc.vat 16 j) = true := by kernel_rfl
set_option maxRecDepth 100000 in
theorem w35x3 : ((List.range' 3 2).all fun j => enc.vat 35 j) = true := by kernel_rfl
set_option maxRecDepth 100000 in
theorem w31x6 : ((List.range' 6 1).all fun j => enc.vat 31 j) = true := by kernel_rfl
set_option maxRecDepth 100000 in
theorem w31x12 : ((List.range' 12 1).all fun j => enc.vat 31 j) = true := by kernel_rfl
set_option maxRecDepth 100000 in
theorem w32x2 : ((List.range' 2 1).all fun j => enc.vat 32 j) = true := by kernel_rfl
set_option maxRecDepth 100000 in
theorem w32x7 : ((List.range' 7 1).all fun j => enc.vat 32 j) = true := by kernel_rfl
set_option maxRecDepth 100000 in
theorem w32x13 : ((List.range' 13 1).all fun j => enc.vat 32 j) = true := by kernel_rfl
set_option maxRecDepth 100000 in
theorem w34x1 : ((List.range' 1 1).all fun j => enc.vat 34 j) = true := by kernel_rfl
set_option maxRecDepth 100000 in
theorem c31 : apt.covV 31 = true := by kernel_rfl
set_option maxRecDepth 100000 in
theorem w29x2 : ((List.range' 2 1).all fun j => enc.vat 29 j) = true := by kernel_rfl
set_option maxRecDepth 100000 in
theorem hi : enc.vq wid.knHigh = true := by kernel_rfl
set_option maxRecDepth 100000 in
theorem c34 : apt.covV 34 = true := by kernel_rfl
set_option maxRecDepth 100000 in
theorem w30x0 : ((List.range' 0 1).all fun j => enc.vat 30 j) = true := by kernel_rfl
set_option maxRecDepth 100000 in
theorem w42x0 : ((List.range' 0 2).all fun j => enc.vat 42 j) = true := by kernel_rfl
set_option maxRecDepth 100000 in
theorem c5 : apt.covV 5 = true := by kernel_rfl
set_option maxRecDepth 100000 in
theorem c11 : apt.covV 11 = true := by kernel_rfl
set_option maxRecDepth 100000 in
theorem c17 : apt.covV 17 = true := by kernel_rfl
set_option maxRecDepth 100000 in
theorem c23 : apt.covV 23 = true := by kernel_rfl
set_option maxRecDepth 100000 in
theorem c29 : apt.covV 29 = true := by kernel_rfl
set_option maxRecDepth 100000 in
theorem c39 : apt.covV 39 = true := by kernel_rfl
set_option maxRecDepth 100000 in
theorem c45 : apt.covV 45 = true := by kernel_rfl
set_option maxRecDepth 100000 in
theorem w8x0 : ((List.range' 0 1).all fun j => enc.vat 8 j) = true := by kernel_rfl
set_option maxRecDepth 100000 in
theorem w1x2 : ((List.range' 2 1).all fun j => enc.vat 1 j) = true := by kernel_rfl
set_option maxRecDepth 100000 in
theorem w8x2 : ((List.range' 2 1).all fun j => enc.vat 8 j) = true := by kernel_rfl
end Go.Proofs.YtmaaibffgoanpaaGreatDoor.env
