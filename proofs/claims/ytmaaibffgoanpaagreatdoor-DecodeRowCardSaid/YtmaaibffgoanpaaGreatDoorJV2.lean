/- For the seat: texts joined: EnvP2. -/
import Derived.Test.YtmaaibffgoanpaaGreatDoorJC1
/- Env: the walks at some cases of the input. -/
namespace Go.Proofs.YtmaaibffgoanpaaGreatDoor.env
open Go.Sx
set_option maxRecDepth 100000
theorem w17x2 : ((List.range' 2 1).all fun j => enc.vat 17 j) = true := by kernel_rfl
set_option maxRecDepth 100000 in
theorem w1x3 : ((List.range' 3 1).all fun j => enc.vat 1 j) = true := by kernel_rfl
set_option maxRecDepth 100000 in
theorem w18x1 : ((List.range' 1 1).all fun j => enc.vat 18 j) = true := by kernel_rfl
set_option maxRecDepth 100000 in
theorem w8x1 : ((List.range' 1 1).all fun j => enc.vat 8 j) = true := by kernel_rfl
set_option maxRecDepth 100000 in
theorem w17x3 : ((List.range' 3 1).all fun j => enc.vat 17 j) = true := by kernel_rfl
set_option maxRecDepth 100000 in
theorem w29x1 : ((List.range' 1 1).all fun j => enc.vat 29 j) = true := by kernel_rfl
set_option maxRecDepth 100000 in
theorem w22x0 : ((List.range' 0 2).all fun j => enc.vat 22 j) = true := by kernel_rfl
set_option maxRecDepth 100000 in
theorem w31x4 : ((List.range' 4 1).all fun j => enc.vat 31 j) = true := by kernel_rfl
set_option maxRecDepth 100000 in
theorem w31x10 : ((List.range' 10 1).all fun j => enc.vat 31 j) = true := by kernel_rfl
set_option maxRecDepth 100000 in
theorem w21x0 : ((List.range' 0 2).all fun j => enc.vat 21 j) = true := by kernel_rfl
set_option maxRecDepth 100000 in
theorem w32x8 : ((List.range' 8 1).all fun j => enc.vat 32 j) = true := by kernel_rfl
set_option maxRecDepth 100000 in
theorem w32x14 : ((List.range' 14 1).all fun j => enc.vat 32 j) = true := by kernel_rfl
set_option maxRecDepth 100000 in
theorem w40x0 : ((List.range' 0 3).all fun j => enc.vat 40 j) = true := by kernel_rfl
set_option maxRecDepth 100000 in
theorem c32 : apt.covV 32 = true := by kernel_rfl
set_option maxRecDepth 100000 in
theorem w30x2 : ((List.range' 2 1).all fun j => enc.vat 30 j) = true := by kernel_rfl
set_option maxRecDepth 100000 in
theorem w23x0 : ((List.range' 0 2).all fun j => enc.vat 23 j) = true := by kernel_rfl
set_option maxRecDepth 100000 in
theorem c33 : apt.covV 33 = true := by kernel_rfl
set_option maxRecDepth 100000 in
theorem w29x0 : ((List.range' 0 1).all fun j => enc.vat 29 j) = true := by kernel_rfl
set_option maxRecDepth 100000 in
theorem w3x0 : ((List.range' 0 1).all fun j => enc.vat 3 j) = true := by kernel_rfl
set_option maxRecDepth 100000 in
theorem c4 : apt.covV 4 = true := by kernel_rfl
set_option maxRecDepth 100000 in
theorem c10 : apt.covV 10 = true := by kernel_rfl
set_option maxRecDepth 100000 in
theorem c16 : apt.covV 16 = true := by kernel_rfl
set_option maxRecDepth 100000 in
theorem c22 : apt.covV 22 = true := by kernel_rfl
set_option maxRecDepth 100000 in
theorem c28 : apt.covV 28 = true := by kernel_rfl
set_option maxRecDepth 100000 in
theorem c38 : apt.covV 38 = true := by kernel_rfl
set_option maxRecDepth 100000 in
theorem c44 : apt.covV 44 = true := by kernel_rfl
set_option maxRecDepth 100000 in
theorem w7x0 : ((List.range' 0 1).all fun j => enc.vat 7 j) = true := by kernel_rfl
set_option maxRecDepth 100000 in
theorem w3x2 : ((List.range' 2 1).all fun j => enc.vat 3 j) = true := by kernel_rfl
set_option maxRecDepth 100000 in
theorem w9x2 : ((List.range' 2 1).all fun j => enc.vat 9 j) = true := by kernel_rfl
end Go.Proofs.YtmaaibffgoanpaaGreatDoor.env
