/- For the seat: texts joined: EnvP0. -/
import Derived.Test.YtmaaibffgoanpaaGreatDoorJC1
/- Env: the walks at some cases of the input. -/
namespace Go.Proofs.YtmaaibffgoanpaaGreatDoor.env
open Go.Sx
set_option maxRecDepth 100000
theorem w18x2 : ((List.range' 2 1).all fun j => enc.vat 18 j) = true := by kernel_rfl
set_option maxRecDepth 100000 in
theorem w41x2 : ((List.range' 2 1).all fun j => enc.vat 41 j) = true := by kernel_rfl
set_option maxRecDepth 100000 in
theorem w9x1 : ((List.range' 1 1).all fun j => enc.vat 9 j) = true := by kernel_rfl
set_option maxRecDepth 100000 in
theorem w3x1 : ((List.range' 1 1).all fun j => enc.vat 3 j) = true := by kernel_rfl
set_option maxRecDepth 100000 in
theorem w27x1 : ((List.range' 1 1).all fun j => enc.vat 27 j) = true := by kernel_rfl
set_option maxRecDepth 100000 in
theorem w17x0 : ((List.range' 0 2).all fun j => enc.vat 17 j) = true := by kernel_rfl
set_option maxRecDepth 100000 in
theorem w31x1 : ((List.range' 1 1).all fun j => enc.vat 31 j) = true := by kernel_rfl
set_option maxRecDepth 100000 in
theorem w31x7 : ((List.range' 7 1).all fun j => enc.vat 31 j) = true := by kernel_rfl
set_option maxRecDepth 100000 in
theorem w31x13 : ((List.range' 13 1).all fun j => enc.vat 31 j) = true := by kernel_rfl
set_option maxRecDepth 100000 in
theorem w32x3 : ((List.range' 3 1).all fun j => enc.vat 32 j) = true := by kernel_rfl
set_option maxRecDepth 100000 in
theorem w32x9 : ((List.range' 9 1).all fun j => enc.vat 32 j) = true := by kernel_rfl
set_option maxRecDepth 100000 in
theorem w32x15 : ((List.range' 15 1).all fun j => enc.vat 32 j) = true := by kernel_rfl
set_option maxRecDepth 100000 in
theorem w13x0 : ((List.range' 0 4).all fun j => enc.vat 13 j) = true := by kernel_rfl
set_option maxRecDepth 100000 in
theorem w15x0 : ((List.range' 0 4).all fun j => enc.vat 15 j) = true := by kernel_rfl
set_option maxRecDepth 100000 in
theorem w27x2 : ((List.range' 2 1).all fun j => enc.vat 27 j) = true := by kernel_rfl
set_option maxRecDepth 100000 in
theorem w25x2 : ((List.range' 2 1).all fun j => enc.vat 25 j) = true := by kernel_rfl
set_option maxRecDepth 100000 in
theorem w41x0 : ((List.range' 0 2).all fun j => enc.vat 41 j) = true := by kernel_rfl
set_option maxRecDepth 100000 in
theorem w19x0 : ((List.range' 0 1).all fun j => enc.vat 19 j) = true := by kernel_rfl
set_option maxRecDepth 100000 in
theorem w43x0 : ((List.range' 0 2).all fun j => enc.vat 43 j) = true := by kernel_rfl
set_option maxRecDepth 100000 in
theorem c6 : apt.covV 6 = true := by kernel_rfl
set_option maxRecDepth 100000 in
theorem c12 : apt.covV 12 = true := by kernel_rfl
set_option maxRecDepth 100000 in
theorem c18 : apt.covV 18 = true := by kernel_rfl
set_option maxRecDepth 100000 in
theorem c24 : apt.covV 24 = true := by kernel_rfl
set_option maxRecDepth 100000 in
theorem c30 : apt.covV 30 = true := by kernel_rfl
set_option maxRecDepth 100000 in
theorem c40 : apt.covV 40 = true := by kernel_rfl
set_option maxRecDepth 100000 in
theorem w2x0 : ((List.range' 0 1).all fun j => enc.vat 2 j) = true := by kernel_rfl
set_option maxRecDepth 100000 in
theorem w9x0 : ((List.range' 0 1).all fun j => enc.vat 9 j) = true := by kernel_rfl
set_option maxRecDepth 100000 in
theorem w2x2 : ((List.range' 2 1).all fun j => enc.vat 2 j) = true := by kernel_rfl
end Go.Proofs.YtmaaibffgoanpaaGreatDoor.env
