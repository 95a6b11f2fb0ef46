/- WideLong: the walks at some cases of the input. -/
import Derived.Test.YtaiecnepchndkaaDoorWidDef
namespace Go.Proofs.YtaiecnepchndkaaDoor.wideLong
open Go.Sx
set_option maxRecDepth 100000
theorem w32x1 : wid.at2 14 32 1 = true := by kernel_rfl
theorem w31x0 : wid.at2 14 31 0 = true := by kernel_rfl
theorem w32x0 : wid.at2 14 32 0 = true := by kernel_rfl
theorem w5x1 : wid.at2 14 5 1 = true := by kernel_rfl
theorem w9x1 : wid.at2 14 9 1 = true := by kernel_rfl
theorem w8x1 : wid.at2 14 8 1 = true := by kernel_rfl
theorem w2x1 : wid.at2 14 2 1 = true := by kernel_rfl
theorem w10x1 : wid.at2 14 10 1 = true := by kernel_rfl
theorem w11x1 : wid.at2 14 11 1 = true := by kernel_rfl
theorem w41x1 : wid.at2 14 41 1 = true := by kernel_rfl
theorem w19x1 : wid.at2 14 19 1 = true := by kernel_rfl
theorem w30x1 : wid.at2 14 30 1 = true := by kernel_rfl
theorem w25x1 : wid.at2 14 25 1 = true := by kernel_rfl
theorem w28x1 : wid.at2 14 28 1 = true := by kernel_rfl
theorem w29x1 : wid.at2 14 29 1 = true := by kernel_rfl
theorem w35x2 : wid.at2 14 35 2 = true := by kernel_rfl
theorem w13x1 : wid.at2 14 13 1 = true := by kernel_rfl
theorem w15x1 : wid.at2 14 15 1 = true := by kernel_rfl
theorem w35x1 : wid.at2 14 35 1 = true := by kernel_rfl
theorem w40x1 : wid.at2 14 40 1 = true := by kernel_rfl
theorem w22x1 : wid.at2 14 22 1 = true := by kernel_rfl
theorem w45x1 : wid.at2 14 45 1 = true := by kernel_rfl
theorem w23x1 : wid.at2 14 23 1 = true := by kernel_rfl
theorem w28x0 : wid.at2 14 28 0 = true := by kernel_rfl
theorem w26x0 : wid.at2 14 26 0 = true := by kernel_rfl
theorem w29x0 : wid.at2 14 29 0 = true := by kernel_rfl
theorem w16x0 : wid.at2 14 16 0 = true := by kernel_rfl
theorem w18x0 : wid.at2 14 18 0 = true := by kernel_rfl
theorem w1x0 : wid.at2 14 1 0 = true := by kernel_rfl
theorem w3x0 : wid.at2 14 3 0 = true := by kernel_rfl
theorem w5x0 : wid.at2 14 5 0 = true := by kernel_rfl
theorem w7x0 : wid.at2 14 7 0 = true := by kernel_rfl
theorem w9x0 : wid.at2 14 9 0 = true := by kernel_rfl
theorem w20x0 : wid.at2 14 20 0 = true := by kernel_rfl
theorem w12x0 : wid.at2 14 12 0 = true := by kernel_rfl
theorem w15x0 : wid.at2 14 15 0 = true := by kernel_rfl
theorem w22x0 : wid.at2 14 22 0 = true := by kernel_rfl
theorem w14x0 : wid.at2 14 14 0 = true := by kernel_rfl
theorem w35x0 : wid.at2 14 35 0 = true := by kernel_rfl
theorem w40x0 : wid.at2 14 40 0 = true := by kernel_rfl
theorem w42x0 : wid.at2 14 42 0 = true := by kernel_rfl
theorem w23x0 : wid.at2 14 23 0 = true := by kernel_rfl
theorem w38x0 : wid.at2 14 38 0 = true := by kernel_rfl
theorem w42x1 : wid.at2 14 42 1 = true := by kernel_rfl
theorem w44x0 : wid.at2 14 44 0 = true := by kernel_rfl
theorem w38x1 : wid.at2 14 38 1 = true := by kernel_rfl
theorem w44x1 : wid.at2 14 44 1 = true := by kernel_rfl
end Go.Proofs.YtaiecnepchndkaaDoor.wideLong
