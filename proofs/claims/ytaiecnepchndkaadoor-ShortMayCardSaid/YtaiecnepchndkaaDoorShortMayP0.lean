/- ShortMay: the walks at some cases of the input. -/
import Derived.Test.YtaiecnepchndkaaDoorShoDef
namespace Go.Proofs.YtaiecnepchndkaaDoor.shortMay
open Go.Sx
set_option maxRecDepth 100000
theorem w0 : sho.at2 5 65024 0 = true := by kernel_rfl
theorem w4 : sho.at2 5 65024 2048 = true := by kernel_rfl
theorem w8 : sho.at2 5 65024 4096 = true := by kernel_rfl
theorem w12 : sho.at2 5 65024 6144 = true := by kernel_rfl
theorem w16 : sho.at2 5 65024 8192 = true := by kernel_rfl
theorem w20 : sho.at2 5 65024 10240 = true := by kernel_rfl
theorem w24 : sho.at2 5 65024 12288 = true := by kernel_rfl
theorem w28 : sho.at2 5 65024 14336 = true := by kernel_rfl
theorem w32 : sho.at2 5 65472 16384 = true := by kernel_rfl
theorem w36 : sho.at2 5 65472 16640 = true := by kernel_rfl
theorem w40 : sho.at2 5 65472 16896 = true := by kernel_rfl
theorem w44 : sho.at2 5 65472 17152 = true := by kernel_rfl
theorem w48 : sho.at2 5 65280 17408 = true := by kernel_rfl
theorem w52 : sho.at2 5 63488 18432 = true := by kernel_rfl
theorem w56 : sho.at2 5 65024 22016 = true := by kernel_rfl
theorem w60 : sho.at2 5 65024 24064 = true := by kernel_rfl
theorem w64 : sho.at2 5 63488 30720 = true := by kernel_rfl
theorem w68 : sho.at2 5 63488 38912 = true := by kernel_rfl
theorem w72 : sho.at2 5 65280 45312 = true := by kernel_rfl
theorem w76 : sho.at2 5 65280 46336 = true := by kernel_rfl
theorem w80 : sho.at2 5 65280 47360 = true := by kernel_rfl
theorem w84 : sho.at2 5 65280 48384 = true := by kernel_rfl
theorem w88 : sho.at2 5 63488 51200 = true := by kernel_rfl
theorem w92 : sho.at2 5 63488 61440 = true := by kernel_rfl
end Go.Proofs.YtaiecnepchndkaaDoor.shortMay
