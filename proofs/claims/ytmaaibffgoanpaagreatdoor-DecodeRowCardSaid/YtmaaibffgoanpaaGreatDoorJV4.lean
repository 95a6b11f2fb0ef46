/- For the seat: texts joined: EnvP4. -/
import Derived.Test.YtmaaibffgoanpaaGreatDoorJC1
/- Env: the walks at some cases of the input. -/
namespace Go.Proofs.YtmaaibffgoanpaaGreatDoor.env
open Go.Sx
set_option maxRecDepth 100000
theorem w2x3 : ((List.range' 3 1).all fun j => enc.vat 2 j) = true := by kernel_rfl
set_option maxRecDepth 100000 in
theorem w7x6 : ((List.range' 6 1).all fun j => enc.vat 7 j) = true := by kernel_rfl
set_option maxRecDepth 100000 in
theorem w9x3 : ((List.range' 3 1).all fun j => enc.vat 9 j) = true := by kernel_rfl
set_option maxRecDepth 100000 in
theorem w5x1 : ((List.range' 1 1).all fun j => enc.vat 5 j) = true := by kernel_rfl
set_option maxRecDepth 100000 in
theorem w32x0 : ((List.range' 0 1).all fun j => enc.vat 32 j) = true := by kernel_rfl
set_option maxRecDepth 100000 in
theorem w30x1 : ((List.range' 1 1).all fun j => enc.vat 30 j) = true := by kernel_rfl
set_option maxRecDepth 100000 in
theorem w7x2 : ((List.range' 2 4).all fun j => enc.vat 7 j) = true := by kernel_rfl
set_option maxRecDepth 100000 in
theorem w31x3 : ((List.range' 3 1).all fun j => enc.vat 31 j) = true := by kernel_rfl
set_option maxRecDepth 100000 in
theorem w31x9 : ((List.range' 9 1).all fun j => enc.vat 31 j) = true := by kernel_rfl
set_option maxRecDepth 100000 in
theorem w31x15 : ((List.range' 15 1).all fun j => enc.vat 31 j) = true := by kernel_rfl
set_option maxRecDepth 100000 in
theorem w32x5 : ((List.range' 5 1).all fun j => enc.vat 32 j) = true := by kernel_rfl
set_option maxRecDepth 100000 in
theorem w32x11 : ((List.range' 11 1).all fun j => enc.vat 32 j) = true := by kernel_rfl
set_option maxRecDepth 100000 in
theorem w11x3 : ((List.range' 3 1).all fun j => enc.vat 11 j) = true := by kernel_rfl
set_option maxRecDepth 100000 in
theorem w14x0 : ((List.range' 0 4).all fun j => enc.vat 14 j) = true := by kernel_rfl
set_option maxRecDepth 100000 in
theorem w10x0 : ((List.range' 0 3).all fun j => enc.vat 10 j) = true := by kernel_rfl
set_option maxRecDepth 100000 in
theorem w35x0 : ((List.range' 0 2).all fun j => enc.vat 35 j) = true := by kernel_rfl
set_option maxRecDepth 100000 in
theorem w24x0 : ((List.range' 0 2).all fun j => enc.vat 24 j) = true := by kernel_rfl
set_option maxRecDepth 100000 in
theorem w45x0 : ((List.range' 0 2).all fun j => enc.vat 45 j) = true := by kernel_rfl
set_option maxRecDepth 100000 in
theorem w26x0 : ((List.range' 0 1).all fun j => enc.vat 26 j) = true := by kernel_rfl
set_option maxRecDepth 100000 in
theorem w1x0 : ((List.range' 0 1).all fun j => enc.vat 1 j) = true := by kernel_rfl
set_option maxRecDepth 100000 in
theorem c2 : apt.covV 2 = true := by kernel_rfl
set_option maxRecDepth 100000 in
theorem c8 : apt.covV 8 = true := by kernel_rfl
set_option maxRecDepth 100000 in
theorem c14 : apt.covV 14 = true := by kernel_rfl
set_option maxRecDepth 100000 in
theorem c20 : apt.covV 20 = true := by kernel_rfl
set_option maxRecDepth 100000 in
theorem c26 : apt.covV 26 = true := by kernel_rfl
set_option maxRecDepth 100000 in
theorem c36 : apt.covV 36 = true := by kernel_rfl
set_option maxRecDepth 100000 in
theorem c42 : apt.covV 42 = true := by kernel_rfl
set_option maxRecDepth 100000 in
theorem w5x0 : ((List.range' 0 1).all fun j => enc.vat 5 j) = true := by kernel_rfl
set_option maxRecDepth 100000 in
theorem w38x0 : ((List.range' 0 2).all fun j => enc.vat 38 j) = true := by kernel_rfl
set_option maxRecDepth 100000 in
theorem w6x2 : ((List.range' 2 1).all fun j => enc.vat 6 j) = true := by kernel_rfl
end Go.Proofs.YtmaaibffgoanpaaGreatDoor.env
