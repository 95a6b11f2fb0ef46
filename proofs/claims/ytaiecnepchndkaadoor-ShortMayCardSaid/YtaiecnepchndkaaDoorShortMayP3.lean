/- ShortMay: the walks at some cases of the input. -/
import Derived.Test.YtaiecnepchndkaaDoorShoDef
namespace Go.Proofs.YtaiecnepchndkaaDoor.shortMay
open Go.Sx
set_option maxRecDepth 100000
theorem w3 : sho.at2 5 65024 1536 = true := by kernel_rfl
theorem w7 : sho.at2 5 65024 3584 = true := by kernel_rfl
theorem w11 : sho.at2 5 65024 5632 = true := by kernel_rfl
theorem w15 : sho.at2 5 65024 7680 = true := by kernel_rfl
theorem w19 : sho.at2 5 65024 9728 = true := by kernel_rfl
theorem w23 : sho.at2 5 65024 11776 = true := by kernel_rfl
theorem w27 : sho.at2 5 65024 13824 = true := by kernel_rfl
theorem w31 : sho.at2 5 65024 15872 = true := by kernel_rfl
theorem w35 : sho.at2 5 65472 16576 = true := by kernel_rfl
theorem w39 : sho.at2 5 65472 16832 = true := by kernel_rfl
theorem w43 : sho.at2 5 65472 17088 = true := by kernel_rfl
theorem w47 : sho.at2 5 65472 17344 = true := by kernel_rfl
theorem w51 : sho.at2 5 65280 18176 = true := by kernel_rfl
theorem w55 : sho.at2 5 65024 21504 = true := by kernel_rfl
theorem w59 : sho.at2 5 65024 23552 = true := by kernel_rfl
theorem w63 : sho.at2 5 63488 28672 = true := by kernel_rfl
theorem w67 : sho.at2 5 63488 36864 = true := by kernel_rfl
theorem w71 : sho.at2 5 65280 45056 = true := by kernel_rfl
theorem w75 : sho.at2 5 65280 46080 = true := by kernel_rfl
theorem w79 : sho.at2 5 65280 47104 = true := by kernel_rfl
theorem w83 : sho.at2 5 65280 48128 = true := by kernel_rfl
theorem w87 : sho.at2 5 63488 49152 = true := by kernel_rfl
theorem w91 : sho.at2 5 63488 59392 = true := by kernel_rfl
end Go.Proofs.YtaiecnepchndkaaDoor.shortMay
