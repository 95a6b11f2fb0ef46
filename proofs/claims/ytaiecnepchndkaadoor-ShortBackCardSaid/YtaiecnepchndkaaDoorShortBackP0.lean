/- ShortBack: the walks at some cases of the input. -/
import Derived.Test.YtaiecnepchndkaaDoorShbDef
namespace Go.Proofs.YtaiecnepchndkaaDoor.shortBack
open Go.Sx
set_option maxRecDepth 100000
theorem w31_1 : ((List.range' 1 1).all fun j => shb.caseAt 4 31 j) = true := by kernel_rfl
theorem w17_0 : ((List.range' 0 11).all fun j => shb.caseAt 4 17 j) = true := by kernel_rfl
theorem w30_0 : ((List.range' 0 16).all fun j => shb.caseAt 4 30 j) = true := by kernel_rfl
theorem w25_0 : ((List.range' 0 15).all fun j => shb.caseAt 4 25 j) = true := by kernel_rfl
theorem w7_0 : ((List.range' 0 11).all fun j => shb.caseAt 4 7 j) = true := by kernel_rfl
theorem w31_2 : ((List.range' 2 3).all fun j => shb.caseAt 4 31 j) = true := by kernel_rfl
theorem w32_0 : ((List.range' 0 1).all fun j => shb.caseAt 4 32 j) = true := by kernel_rfl
theorem w19_0 : ((List.range' 0 10).all fun j => shb.caseAt 4 19 j) = true := by kernel_rfl
theorem w33_0 : ((List.range' 0 3).all fun j => shb.caseAt 4 33 j) = true := by kernel_rfl
theorem w1_0 : ((List.range' 0 10).all fun j => shb.caseAt 4 1 j) = true := by kernel_rfl
theorem w3_0 : ((List.range' 0 10).all fun j => shb.caseAt 4 3 j) = true := by kernel_rfl
theorem w8_0 : ((List.range' 0 10).all fun j => shb.caseAt 4 8 j) = true := by kernel_rfl
theorem w17_11 : ((List.range' 11 6).all fun j => shb.caseAt 4 17 j) = true := by kernel_rfl
theorem w25_15 : ((List.range' 15 7).all fun j => shb.caseAt 4 25 j) = true := by kernel_rfl
theorem w30_16 : ((List.range' 16 4).all fun j => shb.caseAt 4 30 j) = true := by kernel_rfl
theorem w26_15 : ((List.range' 15 4).all fun j => shb.caseAt 4 26 j) = true := by kernel_rfl
theorem w38_0 : ((List.range' 0 2).all fun j => shb.caseAt 4 38 j) = true := by kernel_rfl
theorem lo : shb.atq 4 shb.knLow = true := by kernel_rfl
theorem w44_0 : ((List.range' 0 2).all fun j => shb.caseAt 4 44 j) = true := by kernel_rfl
theorem w21_0 : ((List.range' 0 2).all fun j => shb.caseAt 4 21 j) = true := by kernel_rfl
theorem w45_0 : ((List.range' 0 2).all fun j => shb.caseAt 4 45 j) = true := by kernel_rfl
theorem c1 : shb.covered 1 = true := by kernel_rfl
theorem c4 : shb.covered 4 = true := by kernel_rfl
theorem c7 : shb.covered 7 = true := by kernel_rfl
theorem c10 : shb.covered 10 = true := by kernel_rfl
theorem c13 : shb.covered 13 = true := by kernel_rfl
theorem c16 : shb.covered 16 = true := by kernel_rfl
theorem c19 : shb.covered 19 = true := by kernel_rfl
theorem c22 : shb.covered 22 = true := by kernel_rfl
theorem c25 : shb.covered 25 = true := by kernel_rfl
theorem c28 : shb.covered 28 = true := by kernel_rfl
theorem c31 : shb.covered 31 = true := by kernel_rfl
theorem c34 : shb.covered 34 = true := by kernel_rfl
theorem c37 : shb.covered 37 = true := by kernel_rfl
theorem c40 : shb.covered 40 = true := by kernel_rfl
theorem c43 : shb.covered 43 = true := by kernel_rfl
end Go.Proofs.YtaiecnepchndkaaDoor.shortBack
