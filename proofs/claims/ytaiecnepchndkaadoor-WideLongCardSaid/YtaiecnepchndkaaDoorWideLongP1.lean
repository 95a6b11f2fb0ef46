/- WideLong: the walks at some cases of the input. -/
import Derived.Test.YtaiecnepchndkaaDoorWidDef
namespace Go.Proofs.YtaiecnepchndkaaDoor.wideLong
open Go.Sx
set_option maxRecDepth 100000
theorem w31x1 : wid.at2 14 31 1 = true := by kernel_rfl
theorem w34x1 : wid.at2 14 34 1 = true := by kernel_rfl
theorem w7x1 : wid.at2 14 7 1 = true := by kernel_rfl
theorem w6x1 : wid.at2 14 6 1 = true := by kernel_rfl
theorem w4x1 : wid.at2 14 4 1 = true := by kernel_rfl
theorem w3x1 : wid.at2 14 3 1 = true := by kernel_rfl
theorem w1x1 : wid.at2 14 1 1 = true := by kernel_rfl
theorem w33x1 : wid.at2 14 33 1 = true := by kernel_rfl
theorem w18x1 : wid.at2 14 18 1 = true := by kernel_rfl
theorem w16x1 : wid.at2 14 16 1 = true := by kernel_rfl
theorem w26x1 : wid.at2 14 26 1 = true := by kernel_rfl
theorem w17x1 : wid.at2 14 17 1 = true := by kernel_rfl
theorem w27x1 : wid.at2 14 27 1 = true := by kernel_rfl
theorem w34x0 : wid.at2 14 34 0 = true := by kernel_rfl
theorem w33x0 : wid.at2 14 33 0 = true := by kernel_rfl
theorem w12x1 : wid.at2 14 12 1 = true := by kernel_rfl
theorem w14x1 : wid.at2 14 14 1 = true := by kernel_rfl
theorem lo : wid.atq 14 wid.pat2 wid.knLow = true := by kernel_rfl
theorem hi : wid.atq 14 wid.pat2 wid.knHigh = true := by kernel_rfl
theorem w36x1 : wid.at2 14 36 1 = true := by kernel_rfl
theorem w21x1 : wid.at2 14 21 1 = true := by kernel_rfl
theorem w20x1 : wid.at2 14 20 1 = true := by kernel_rfl
theorem w24x1 : wid.at2 14 24 1 = true := by kernel_rfl
theorem w25x0 : wid.at2 14 25 0 = true := by kernel_rfl
theorem w27x0 : wid.at2 14 27 0 = true := by kernel_rfl
theorem w30x0 : wid.at2 14 30 0 = true := by kernel_rfl
theorem w17x0 : wid.at2 14 17 0 = true := by kernel_rfl
theorem w19x0 : wid.at2 14 19 0 = true := by kernel_rfl
theorem w2x0 : wid.at2 14 2 0 = true := by kernel_rfl
theorem w4x0 : wid.at2 14 4 0 = true := by kernel_rfl
theorem w6x0 : wid.at2 14 6 0 = true := by kernel_rfl
theorem w8x0 : wid.at2 14 8 0 = true := by kernel_rfl
theorem w10x0 : wid.at2 14 10 0 = true := by kernel_rfl
theorem w43x1 : wid.at2 14 43 1 = true := by kernel_rfl
theorem w13x0 : wid.at2 14 13 0 = true := by kernel_rfl
theorem w21x0 : wid.at2 14 21 0 = true := by kernel_rfl
theorem w11x0 : wid.at2 14 11 0 = true := by kernel_rfl
theorem w24x0 : wid.at2 14 24 0 = true := by kernel_rfl
theorem w37x0 : wid.at2 14 37 0 = true := by kernel_rfl
theorem w41x0 : wid.at2 14 41 0 = true := by kernel_rfl
theorem w45x0 : wid.at2 14 45 0 = true := by kernel_rfl
theorem w36x0 : wid.at2 14 36 0 = true := by kernel_rfl
theorem w39x0 : wid.at2 14 39 0 = true := by kernel_rfl
theorem w43x0 : wid.at2 14 43 0 = true := by kernel_rfl
theorem w37x1 : wid.at2 14 37 1 = true := by kernel_rfl
theorem w39x1 : wid.at2 14 39 1 = true := by kernel_rfl
end Go.Proofs.YtaiecnepchndkaaDoor.wideLong
