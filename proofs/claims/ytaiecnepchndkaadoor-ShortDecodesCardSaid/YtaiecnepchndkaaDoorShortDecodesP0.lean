/- ShortDecodes: the walks at some cases of the input. -/
import Derived.Test.YtaiecnepchndkaaDoorShoDef
namespace Go.Proofs.YtaiecnepchndkaaDoor.shortDecodes
open Go.Sx
set_option maxRecDepth 100000
theorem w0 : sho.at2 3 65024 0 = true := by kernel_rfl
theorem w3 : sho.at2 3 65024 1536 = true := by kernel_rfl
theorem w6 : sho.at2 3 65024 3072 = true := by kernel_rfl
theorem w9 : sho.at2 3 65024 4608 = true := by kernel_rfl
theorem w12 : sho.at2 3 65024 6144 = true := by kernel_rfl
theorem w15 : sho.at2 3 65024 7680 = true := by kernel_rfl
theorem w18 : sho.at2 3 65024 9216 = true := by kernel_rfl
theorem w21 : sho.at2 3 65024 10752 = true := by kernel_rfl
theorem w24 : sho.at2 3 65024 12288 = true := by kernel_rfl
theorem w27 : sho.at2 3 65024 13824 = true := by kernel_rfl
theorem w30 : sho.at2 3 65024 15360 = true := by kernel_rfl
theorem w33 : sho.at2 3 65472 16448 = true := by kernel_rfl
theorem w36 : sho.at2 3 65472 16640 = true := by kernel_rfl
theorem w39 : sho.at2 3 65472 16832 = true := by kernel_rfl
theorem w42 : sho.at2 3 65472 17024 = true := by kernel_rfl
theorem w45 : sho.at2 3 65472 17216 = true := by kernel_rfl
theorem w48 : sho.at2 3 65280 17408 = true := by kernel_rfl
theorem w51 : sho.at2 3 65280 18176 = true := by kernel_rfl
theorem w54 : sho.at2 3 65024 20992 = true := by kernel_rfl
theorem w57 : sho.at2 3 65024 22528 = true := by kernel_rfl
theorem w60 : sho.at2 3 65024 24064 = true := by kernel_rfl
theorem w63 : sho.at2 3 63488 28672 = true := by kernel_rfl
theorem w66 : sho.at2 3 63488 34816 = true := by kernel_rfl
theorem w69 : sho.at2 3 63488 40960 = true := by kernel_rfl
theorem w72 : sho.at2 3 65280 45312 = true := by kernel_rfl
theorem w75 : sho.at2 3 65280 46080 = true := by kernel_rfl
theorem w78 : sho.at2 3 65280 46848 = true := by kernel_rfl
theorem w81 : sho.at2 3 65280 47616 = true := by kernel_rfl
theorem w84 : sho.at2 3 65280 48384 = true := by kernel_rfl
theorem w87 : sho.at2 3 63488 49152 = true := by kernel_rfl
theorem w90 : sho.at2 3 63488 57344 = true := by kernel_rfl
theorem w93 : sho.at2 3 63488 63488 = true := by kernel_rfl
end Go.Proofs.YtaiecnepchndkaaDoor.shortDecodes
