/- ShortBack: the walks at some cases of the input. -/
import Derived.Test.YtaiecnepchndkaaDoorShbDef
namespace Go.Proofs.YtaiecnepchndkaaDoor.shortBack
open Go.Sx
set_option maxRecDepth 100000
theorem w32_1 : ((List.range' 1 1).all fun j => shb.caseAt 4 32 j) = true := by kernel_rfl
theorem w5_0 : ((List.range' 0 10).all fun j => shb.caseAt 4 5 j) = true := by kernel_rfl
theorem w26_0 : ((List.range' 0 15).all fun j => shb.caseAt 4 26 j) = true := by kernel_rfl
theorem w16_0 : ((List.range' 0 11).all fun j => shb.caseAt 4 16 j) = true := by kernel_rfl
theorem w7_11 : ((List.range' 11 10).all fun j => shb.caseAt 4 7 j) = true := by kernel_rfl
theorem w32_2 : ((List.range' 2 3).all fun j => shb.caseAt 4 32 j) = true := by kernel_rfl
theorem w31_0 : ((List.range' 0 1).all fun j => shb.caseAt 4 31 j) = true := by kernel_rfl
theorem w20_0 : ((List.range' 0 9).all fun j => shb.caseAt 4 20 j) = true := by kernel_rfl
theorem w9_0 : ((List.range' 0 10).all fun j => shb.caseAt 4 9 j) = true := by kernel_rfl
theorem w5_15 : ((List.range' 15 6).all fun j => shb.caseAt 4 5 j) = true := by kernel_rfl
theorem w40_0 : ((List.range' 0 9).all fun j => shb.caseAt 4 40 j) = true := by kernel_rfl
theorem w4_0 : ((List.range' 0 10).all fun j => shb.caseAt 4 4 j) = true := by kernel_rfl
theorem w13_0 : ((List.range' 0 6).all fun j => shb.caseAt 4 13 j) = true := by kernel_rfl
theorem w11_0 : ((List.range' 0 6).all fun j => shb.caseAt 4 11 j) = true := by kernel_rfl
theorem w18_12 : ((List.range' 12 5).all fun j => shb.caseAt 4 18 j) = true := by kernel_rfl
theorem w29_15 : ((List.range' 15 4).all fun j => shb.caseAt 4 29 j) = true := by kernel_rfl
theorem w27_17 : ((List.range' 17 3).all fun j => shb.caseAt 4 27 j) = true := by kernel_rfl
theorem hi : shb.atq 4 shb.knHigh = true := by kernel_rfl
theorem w39_0 : ((List.range' 0 2).all fun j => shb.caseAt 4 39 j) = true := by kernel_rfl
theorem w22_0 : ((List.range' 0 2).all fun j => shb.caseAt 4 22 j) = true := by kernel_rfl
theorem w36_0 : ((List.range' 0 2).all fun j => shb.caseAt 4 36 j) = true := by kernel_rfl
theorem c3 : shb.covered 3 = true := by kernel_rfl
theorem c6 : shb.covered 6 = true := by kernel_rfl
theorem c9 : shb.covered 9 = true := by kernel_rfl
theorem c12 : shb.covered 12 = true := by kernel_rfl
theorem c15 : shb.covered 15 = true := by kernel_rfl
theorem c18 : shb.covered 18 = true := by kernel_rfl
theorem c21 : shb.covered 21 = true := by kernel_rfl
theorem c24 : shb.covered 24 = true := by kernel_rfl
theorem c27 : shb.covered 27 = true := by kernel_rfl
theorem c30 : shb.covered 30 = true := by kernel_rfl
theorem c33 : shb.covered 33 = true := by kernel_rfl
theorem c36 : shb.covered 36 = true := by kernel_rfl
theorem c39 : shb.covered 39 = true := by kernel_rfl
theorem c42 : shb.covered 42 = true := by kernel_rfl
theorem c45 : shb.covered 45 = true := by kernel_rfl
end Go.Proofs.YtaiecnepchndkaaDoor.shortBack
