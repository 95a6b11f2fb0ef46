/- ShortBack: the walks at some cases of the input. -/
import Derived.Test.YtaiecnepchndkaaDoorShbDef
namespace Go.Proofs.YtaiecnepchndkaaDoor.shortBack
open Go.Sx
set_option maxRecDepth 100000
theorem w27_0 : ((List.range' 0 17).all fun j => shb.caseAt 4 27 j) = true := by kernel_rfl
theorem w5_10 : ((List.range' 10 5).all fun j => shb.caseAt 4 5 j) = true := by kernel_rfl
theorem w18_0 : ((List.range' 0 12).all fun j => shb.caseAt 4 18 j) = true := by kernel_rfl
theorem w28_0 : ((List.range' 0 15).all fun j => shb.caseAt 4 28 j) = true := by kernel_rfl
theorem w29_0 : ((List.range' 0 15).all fun j => shb.caseAt 4 29 j) = true := by kernel_rfl
theorem w10_0 : ((List.range' 0 13).all fun j => shb.caseAt 4 10 j) = true := by kernel_rfl
theorem w12_0 : ((List.range' 0 9).all fun j => shb.caseAt 4 12 j) = true := by kernel_rfl
theorem w35_0 : ((List.range' 0 7).all fun j => shb.caseAt 4 35 j) = true := by kernel_rfl
theorem w34_0 : ((List.range' 0 3).all fun j => shb.caseAt 4 34 j) = true := by kernel_rfl
theorem w41_0 : ((List.range' 0 9).all fun j => shb.caseAt 4 41 j) = true := by kernel_rfl
theorem w2_0 : ((List.range' 0 10).all fun j => shb.caseAt 4 2 j) = true := by kernel_rfl
theorem w6_0 : ((List.range' 0 10).all fun j => shb.caseAt 4 6 j) = true := by kernel_rfl
theorem w14_0 : ((List.range' 0 6).all fun j => shb.caseAt 4 14 j) = true := by kernel_rfl
theorem w28_15 : ((List.range' 15 7).all fun j => shb.caseAt 4 28 j) = true := by kernel_rfl
theorem w42_0 : ((List.range' 0 2).all fun j => shb.caseAt 4 42 j) = true := by kernel_rfl
theorem w37_0 : ((List.range' 0 2).all fun j => shb.caseAt 4 37 j) = true := by kernel_rfl
theorem w16_11 : ((List.range' 11 2).all fun j => shb.caseAt 4 16 j) = true := by kernel_rfl
theorem w15_0 : ((List.range' 0 3).all fun j => shb.caseAt 4 15 j) = true := by kernel_rfl
theorem w43_0 : ((List.range' 0 2).all fun j => shb.caseAt 4 43 j) = true := by kernel_rfl
theorem w23_0 : ((List.range' 0 2).all fun j => shb.caseAt 4 23 j) = true := by kernel_rfl
theorem w24_0 : ((List.range' 0 2).all fun j => shb.caseAt 4 24 j) = true := by kernel_rfl
theorem c2 : shb.covered 2 = true := by kernel_rfl
theorem c5 : shb.covered 5 = true := by kernel_rfl
theorem c8 : shb.covered 8 = true := by kernel_rfl
theorem c11 : shb.covered 11 = true := by kernel_rfl
theorem c14 : shb.covered 14 = true := by kernel_rfl
theorem c17 : shb.covered 17 = true := by kernel_rfl
theorem c20 : shb.covered 20 = true := by kernel_rfl
theorem c23 : shb.covered 23 = true := by kernel_rfl
theorem c26 : shb.covered 26 = true := by kernel_rfl
theorem c29 : shb.covered 29 = true := by kernel_rfl
theorem c32 : shb.covered 32 = true := by kernel_rfl
theorem c35 : shb.covered 35 = true := by kernel_rfl
theorem c38 : shb.covered 38 = true := by kernel_rfl
theorem c41 : shb.covered 41 = true := by kernel_rfl
theorem c44 : shb.covered 44 = true := by kernel_rfl
end Go.Proofs.YtaiecnepchndkaaDoor.shortBack
