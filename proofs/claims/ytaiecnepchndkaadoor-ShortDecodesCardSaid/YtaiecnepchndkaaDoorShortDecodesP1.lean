/- ShortDecodes: the walks at some cases of the input. -/
import Derived.Test.YtaiecnepchndkaaDoorShoDef
namespace Go.Proofs.YtaiecnepchndkaaDoor.shortDecodes
open Go.Sx
set_option maxRecDepth 100000
theorem w1 : sho.at2 3 65024 512 = true := by kernel_rfl
theorem w4 : sho.at2 3 65024 2048 = true := by kernel_rfl
theorem w7 : sho.at2 3 65024 3584 = true := by kernel_rfl
theorem w10 : sho.at2 3 65024 5120 = true := by kernel_rfl
theorem w13 : sho.at2 3 65024 6656 = true := by kernel_rfl
theorem w16 : sho.at2 3 65024 8192 = true := by kernel_rfl
theorem w19 : sho.at2 3 65024 9728 = true := by kernel_rfl
theorem w22 : sho.at2 3 65024 11264 = true := by kernel_rfl
theorem w25 : sho.at2 3 65024 12800 = true := by kernel_rfl
theorem w28 : sho.at2 3 65024 14336 = true := by kernel_rfl
theorem w31 : sho.at2 3 65024 15872 = true := by kernel_rfl
theorem w34 : sho.at2 3 65472 16512 = true := by kernel_rfl
theorem w37 : sho.at2 3 65472 16704 = true := by kernel_rfl
theorem w40 : sho.at2 3 65472 16896 = true := by kernel_rfl
theorem w43 : sho.at2 3 65472 17088 = true := by kernel_rfl
theorem w46 : sho.at2 3 65472 17280 = true := by kernel_rfl
theorem w49 : sho.at2 3 65280 17664 = true := by kernel_rfl
theorem w52 : sho.at2 3 63488 18432 = true := by kernel_rfl
theorem w55 : sho.at2 3 65024 21504 = true := by kernel_rfl
theorem w58 : sho.at2 3 65024 23040 = true := by kernel_rfl
theorem w61 : sho.at2 3 63488 24576 = true := by kernel_rfl
theorem w64 : sho.at2 3 63488 30720 = true := by kernel_rfl
theorem w67 : sho.at2 3 63488 36864 = true := by kernel_rfl
theorem w70 : sho.at2 3 63488 43008 = true := by kernel_rfl
theorem w73 : sho.at2 3 65280 45568 = true := by kernel_rfl
theorem w76 : sho.at2 3 65280 46336 = true := by kernel_rfl
theorem w79 : sho.at2 3 65280 47104 = true := by kernel_rfl
theorem w82 : sho.at2 3 65280 47872 = true := by kernel_rfl
theorem w85 : sho.at2 3 65280 48640 = true := by kernel_rfl
theorem w88 : sho.at2 3 63488 51200 = true := by kernel_rfl
theorem w91 : sho.at2 3 63488 59392 = true := by kernel_rfl
end Go.Proofs.YtaiecnepchndkaaDoor.shortDecodes
