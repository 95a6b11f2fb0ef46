/- For the seat: texts joined: EnvP3. -/
import Derived.Test.YtmaaibffgoanpaaGreatDoorJC1
/- Env: the walks at some cases of the input. -/
namespace Go.Proofs.YtmaaibffgoanpaaGreatDoor.env
open Go.Sx
set_option maxRecDepth 100000
theorem w16x2 : ((List.range' 2 1).all fun j => enc.vat 16 j) = true := by kernel_rfl
set_option maxRecDepth 100000 in
theorem w8x3 : ((List.range' 3 1).all fun j => enc.vat 8 j) = true := by kernel_rfl
set_option maxRecDepth 100000 in
theorem w19x1 : ((List.range' 1 1).all fun j => enc.vat 19 j) = true := by kernel_rfl
set_option maxRecDepth 100000 in
theorem w7x1 : ((List.range' 1 1).all fun j => enc.vat 7 j) = true := by kernel_rfl
set_option maxRecDepth 100000 in
theorem w4x1 : ((List.range' 1 1).all fun j => enc.vat 4 j) = true := by kernel_rfl
set_option maxRecDepth 100000 in
theorem w28x0 : ((List.range' 0 2).all fun j => enc.vat 28 j) = true := by kernel_rfl
set_option maxRecDepth 100000 in
theorem w26x1 : ((List.range' 1 1).all fun j => enc.vat 26 j) = true := by kernel_rfl
set_option maxRecDepth 100000 in
theorem w20x0 : ((List.range' 0 2).all fun j => enc.vat 20 j) = true := by kernel_rfl
set_option maxRecDepth 100000 in
theorem w31x5 : ((List.range' 5 1).all fun j => enc.vat 31 j) = true := by kernel_rfl
set_option maxRecDepth 100000 in
theorem w31x11 : ((List.range' 11 1).all fun j => enc.vat 31 j) = true := by kernel_rfl
set_option maxRecDepth 100000 in
theorem w32x1 : ((List.range' 1 1).all fun j => enc.vat 32 j) = true := by kernel_rfl
set_option maxRecDepth 100000 in
theorem w32x6 : ((List.range' 6 1).all fun j => enc.vat 32 j) = true := by kernel_rfl
set_option maxRecDepth 100000 in
theorem w32x12 : ((List.range' 12 1).all fun j => enc.vat 32 j) = true := by kernel_rfl
set_option maxRecDepth 100000 in
theorem w18x3 : ((List.range' 3 1).all fun j => enc.vat 18 j) = true := by kernel_rfl
set_option maxRecDepth 100000 in
theorem w34x0 : ((List.range' 0 1).all fun j => enc.vat 34 j) = true := by kernel_rfl
set_option maxRecDepth 100000 in
theorem w11x0 : ((List.range' 0 3).all fun j => enc.vat 11 j) = true := by kernel_rfl
set_option maxRecDepth 100000 in
theorem w26x2 : ((List.range' 2 1).all fun j => enc.vat 26 j) = true := by kernel_rfl
set_option maxRecDepth 100000 in
theorem w25x0 : ((List.range' 0 1).all fun j => enc.vat 25 j) = true := by kernel_rfl
set_option maxRecDepth 100000 in
theorem w27x0 : ((List.range' 0 1).all fun j => enc.vat 27 j) = true := by kernel_rfl
set_option maxRecDepth 100000 in
theorem c3 : apt.covV 3 = true := by kernel_rfl
set_option maxRecDepth 100000 in
theorem c9 : apt.covV 9 = true := by kernel_rfl
set_option maxRecDepth 100000 in
theorem c15 : apt.covV 15 = true := by kernel_rfl
set_option maxRecDepth 100000 in
theorem c21 : apt.covV 21 = true := by kernel_rfl
set_option maxRecDepth 100000 in
theorem c27 : apt.covV 27 = true := by kernel_rfl
set_option maxRecDepth 100000 in
theorem c37 : apt.covV 37 = true := by kernel_rfl
set_option maxRecDepth 100000 in
theorem c43 : apt.covV 43 = true := by kernel_rfl
set_option maxRecDepth 100000 in
theorem w6x0 : ((List.range' 0 1).all fun j => enc.vat 6 j) = true := by kernel_rfl
set_option maxRecDepth 100000 in
theorem w44x0 : ((List.range' 0 2).all fun j => enc.vat 44 j) = true := by kernel_rfl
set_option maxRecDepth 100000 in
theorem w39x0 : ((List.range' 0 2).all fun j => enc.vat 39 j) = true := by kernel_rfl
end Go.Proofs.YtmaaibffgoanpaaGreatDoor.env
