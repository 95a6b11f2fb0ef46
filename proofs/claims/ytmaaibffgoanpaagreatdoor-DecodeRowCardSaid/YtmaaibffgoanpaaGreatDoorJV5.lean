/- For the seat: texts joined: EnvP5. -/
import Derived.Test.YtmaaibffgoanpaaGreatDoorJC1
/- Env: the walks at some cases of the input. -/
namespace Go.Proofs.YtmaaibffgoanpaaGreatDoor.env
open Go.Sx
set_option maxRecDepth 100000
theorem w6x3 : ((List.range' 3 1).all fun j => enc.vat 6 j) = true := by kernel_rfl
set_option maxRecDepth 100000 in
theorem w3x3 : ((List.range' 3 1).all fun j => enc.vat 3 j) = true := by kernel_rfl
set_option maxRecDepth 100000 in
theorem w5x6 : ((List.range' 6 1).all fun j => enc.vat 5 j) = true := by kernel_rfl
set_option maxRecDepth 100000 in
theorem w1x1 : ((List.range' 1 1).all fun j => enc.vat 1 j) = true := by kernel_rfl
set_option maxRecDepth 100000 in
theorem w31x0 : ((List.range' 0 1).all fun j => enc.vat 31 j) = true := by kernel_rfl
set_option maxRecDepth 100000 in
theorem w35x2 : ((List.range' 2 1).all fun j => enc.vat 35 j) = true := by kernel_rfl
set_option maxRecDepth 100000 in
theorem w25x1 : ((List.range' 1 1).all fun j => enc.vat 25 j) = true := by kernel_rfl
set_option maxRecDepth 100000 in
theorem w31x2 : ((List.range' 2 1).all fun j => enc.vat 31 j) = true := by kernel_rfl
set_option maxRecDepth 100000 in
theorem w31x8 : ((List.range' 8 1).all fun j => enc.vat 31 j) = true := by kernel_rfl
set_option maxRecDepth 100000 in
theorem w31x14 : ((List.range' 14 1).all fun j => enc.vat 31 j) = true := by kernel_rfl
set_option maxRecDepth 100000 in
theorem w32x4 : ((List.range' 4 1).all fun j => enc.vat 32 j) = true := by kernel_rfl
set_option maxRecDepth 100000 in
theorem w32x10 : ((List.range' 10 1).all fun j => enc.vat 32 j) = true := by kernel_rfl
set_option maxRecDepth 100000 in
theorem w10x3 : ((List.range' 3 1).all fun j => enc.vat 10 j) = true := by kernel_rfl
set_option maxRecDepth 100000 in
theorem w5x2 : ((List.range' 2 4).all fun j => enc.vat 5 j) = true := by kernel_rfl
set_option maxRecDepth 100000 in
theorem w12x0 : ((List.range' 0 4).all fun j => enc.vat 12 j) = true := by kernel_rfl
set_option maxRecDepth 100000 in
theorem w28x2 : ((List.range' 2 1).all fun j => enc.vat 28 j) = true := by kernel_rfl
set_option maxRecDepth 100000 in
theorem lo : enc.vq wid.knLow = true := by kernel_rfl
set_option maxRecDepth 100000 in
theorem w36x0 : ((List.range' 0 2).all fun j => enc.vat 36 j) = true := by kernel_rfl
set_option maxRecDepth 100000 in
theorem w18x0 : ((List.range' 0 1).all fun j => enc.vat 18 j) = true := by kernel_rfl
set_option maxRecDepth 100000 in
theorem c1 : apt.covV 1 = true := by kernel_rfl
set_option maxRecDepth 100000 in
theorem c7 : apt.covV 7 = true := by kernel_rfl
set_option maxRecDepth 100000 in
theorem c13 : apt.covV 13 = true := by kernel_rfl
set_option maxRecDepth 100000 in
theorem c19 : apt.covV 19 = true := by kernel_rfl
set_option maxRecDepth 100000 in
theorem c25 : apt.covV 25 = true := by kernel_rfl
set_option maxRecDepth 100000 in
theorem c35 : apt.covV 35 = true := by kernel_rfl
set_option maxRecDepth 100000 in
theorem c41 : apt.covV 41 = true := by kernel_rfl
set_option maxRecDepth 100000 in
theorem w4x0 : ((List.range' 0 1).all fun j => enc.vat 4 j) = true := by kernel_rfl
set_option maxRecDepth 100000 in
theorem w37x0 : ((List.range' 0 2).all fun j => enc.vat 37 j) = true := by kernel_rfl
set_option maxRecDepth 100000 in
theorem w4x2 : ((List.range' 2 1).all fun j => enc.vat 4 j) = true := by kernel_rfl
end Go.Proofs.YtmaaibffgoanpaaGreatDoor.env
