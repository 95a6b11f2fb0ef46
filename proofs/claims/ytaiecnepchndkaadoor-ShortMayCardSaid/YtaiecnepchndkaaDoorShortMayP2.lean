/- ShortMay: the walks at some cases of the input. -/
import Derived.Test.YtaiecnepchndkaaDoorShoDef
namespace Go.Proofs.YtaiecnepchndkaaDoor.shortMay
open Go.Sx
set_option maxRecDepth 100000
theorem w2 : sho.at2 5 65024 1024 = true := by kernel_rfl
theorem w6 : sho.at2 5 65024 3072 = true := by kernel_rfl
theorem w10 : sho.at2 5 65024 5120 = true := by kernel_rfl
theorem w14 : sho.at2 5 65024 7168 = true := by kernel_rfl
theorem w18 : sho.at2 5 65024 9216 = true := by kernel_rfl
theorem w22 : sho.at2 5 65024 11264 = true := by kernel_rfl
theorem w26 : sho.at2 5 65024 13312 = true := by kernel_rfl
theorem w30 : sho.at2 5 65024 15360 = true := by kernel_rfl
theorem w34 : sho.at2 5 65472 16512 = true := by kernel_rfl
theorem w38 : sho.at2 5 65472 16768 = true := by kernel_rfl
theorem w42 : sho.at2 5 65472 17024 = true := by kernel_rfl
theorem w46 : sho.at2 5 65472 17280 = true := by kernel_rfl
theorem w50 : sho.at2 5 65280 17920 = true := by kernel_rfl
theorem w54 : sho.at2 5 65024 20992 = true := by kernel_rfl
theorem w58 : sho.at2 5 65024 23040 = true := by kernel_rfl
theorem w62 : sho.at2 5 63488 26624 = true := by kernel_rfl
theorem w66 : sho.at2 5 63488 34816 = true := by kernel_rfl
theorem w70 : sho.at2 5 63488 43008 = true := by kernel_rfl
theorem w74 : sho.at2 5 65280 45824 = true := by kernel_rfl
theorem w78 : sho.at2 5 65280 46848 = true := by kernel_rfl
theorem w82 : sho.at2 5 65280 47872 = true := by kernel_rfl
theorem w86 : sho.at2 5 65280 48896 = true := by kernel_rfl
theorem w90 : sho.at2 5 63488 57344 = true := by kernel_rfl
end Go.Proofs.YtaiecnepchndkaaDoor.shortMay
