/- ShortDecodes: the walks at some cases of the input. -/
import Derived.Test.YtaiecnepchndkaaDoorShoDef
namespace Go.Proofs.YtaiecnepchndkaaDoor.shortDecodes
open Go.Sx
set_option maxRecDepth 100000
theorem w2 : sho.at2 3 65024 1024 = true := by kernel_rfl
theorem w5 : sho.at2 3 65024 2560 = true := by kernel_rfl
theorem w8 : sho.at2 3 65024 4096 = true := by kernel_rfl
theorem w11 : sho.at2 3 65024 5632 = true := by kernel_rfl
theorem w14 : sho.at2 3 65024 7168 = true := by kernel_rfl
theorem w17 : sho.at2 3 65024 8704 = true := by kernel_rfl
theorem w20 : sho.at2 3 65024 10240 = true := by kernel_rfl
theorem w23 : sho.at2 3 65024 11776 = true := by kernel_rfl
theorem w26 : sho.at2 3 65024 13312 = true := by kernel_rfl
theorem w29 : sho.at2 3 65024 14848 = true := by kernel_rfl
theorem w32 : sho.at2 3 65472 16384 = true := by kernel_rfl
theorem w35 : sho.at2 3 65472 16576 = true := by kernel_rfl
theorem w38 : sho.at2 3 65472 16768 = true := by kernel_rfl
theorem w41 : sho.at2 3 65472 16960 = true := by kernel_rfl
theorem w44 : sho.at2 3 65472 17152 = true := by kernel_rfl
theorem w47 : sho.at2 3 65472 17344 = true := by kernel_rfl
theorem w50 : sho.at2 3 65280 17920 = true := by kernel_rfl
theorem w53 : sho.at2 3 65024 20480 = true := by kernel_rfl
theorem w56 : sho.at2 3 65024 22016 = true := by kernel_rfl
theorem w59 : sho.at2 3 65024 23552 = true := by kernel_rfl
theorem w62 : sho.at2 3 63488 26624 = true := by kernel_rfl
theorem w65 : sho.at2 3 63488 32768 = true := by kernel_rfl
theorem w68 : sho.at2 3 63488 38912 = true := by kernel_rfl
theorem w71 : sho.at2 3 65280 45056 = true := by kernel_rfl
theorem w74 : sho.at2 3 65280 45824 = true := by kernel_rfl
theorem w77 : sho.at2 3 65280 46592 = true := by kernel_rfl
theorem w80 : sho.at2 3 65280 47360 = true := by kernel_rfl
theorem w83 : sho.at2 3 65280 48128 = true := by kernel_rfl
theorem w86 : sho.at2 3 65280 48896 = true := by kernel_rfl
theorem w89 : sho.at2 3 61440 53248 = true := by kernel_rfl
theorem w92 : sho.at2 3 63488 61440 = true := by kernel_rfl
end Go.Proofs.YtaiecnepchndkaaDoor.shortDecodes
