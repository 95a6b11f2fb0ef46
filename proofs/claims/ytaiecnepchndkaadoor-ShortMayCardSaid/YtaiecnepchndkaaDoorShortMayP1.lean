/- ShortMay: the walks at some cases of the input. -/
import Derived.Test.YtaiecnepchndkaaDoorShoDef
namespace Go.Proofs.YtaiecnepchndkaaDoor.shortMay
open Go.Sx
set_option maxRecDepth 100000
theorem w1 : sho.at2 5 65024 512 = true := by kernel_rfl
theorem w5 : sho.at2 5 65024 2560 = true := by kernel_rfl
theorem w9 : sho.at2 5 65024 4608 = true := by kernel_rfl
theorem w13 : sho.at2 5 65024 6656 = true := by kernel_rfl
theorem w17 : sho.at2 5 65024 8704 = true := by kernel_rfl
theorem w21 : sho.at2 5 65024 10752 = true := by kernel_rfl
theorem w25 : sho.at2 5 65024 12800 = true := by kernel_rfl
theorem w29 : sho.at2 5 65024 14848 = true := by kernel_rfl
theorem w33 : sho.at2 5 65472 16448 = true := by kernel_rfl
theorem w37 : sho.at2 5 65472 16704 = true := by kernel_rfl
theorem w41 : sho.at2 5 65472 16960 = true := by kernel_rfl
theorem w45 : sho.at2 5 65472 17216 = true := by kernel_rfl
theorem w49 : sho.at2 5 65280 17664 = true := by kernel_rfl
theorem w53 : sho.at2 5 65024 20480 = true := by kernel_rfl
theorem w57 : sho.at2 5 65024 22528 = true := by kernel_rfl
theorem w61 : sho.at2 5 63488 24576 = true := by kernel_rfl
theorem w65 : sho.at2 5 63488 32768 = true := by kernel_rfl
theorem w69 : sho.at2 5 63488 40960 = true := by kernel_rfl
theorem w73 : sho.at2 5 65280 45568 = true := by kernel_rfl
theorem w77 : sho.at2 5 65280 46592 = true := by kernel_rfl
theorem w81 : sho.at2 5 65280 47616 = true := by kernel_rfl
theorem w85 : sho.at2 5 65280 48640 = true := by kernel_rfl
theorem w89 : sho.at2 5 61440 53248 = true := by kernel_rfl
theorem w93 : sho.at2 5 63488 63488 = true := by kernel_rfl
end Go.Proofs.YtaiecnepchndkaaDoor.shortMay
