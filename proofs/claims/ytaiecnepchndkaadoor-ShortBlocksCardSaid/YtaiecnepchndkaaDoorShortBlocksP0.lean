/- ShortBlocks: the walks at some cases of the input. -/
import Derived.Test.YtaiecnepchndkaaDoorShoDef
namespace Go.Proofs.YtaiecnepchndkaaDoor.shortBlocks
open Go.Sx
set_option maxRecDepth 100000
theorem w0 : sho.at1 7 65024 0 = true := by kernel_rfl
theorem w2 : sho.at1 7 65024 1024 = true := by kernel_rfl
theorem w4 : sho.at1 7 65024 2048 = true := by kernel_rfl
theorem w6 : sho.at1 7 65024 3072 = true := by kernel_rfl
theorem w8 : sho.at1 7 65024 4096 = true := by kernel_rfl
theorem w10 : sho.at1 7 65024 5120 = true := by kernel_rfl
theorem w12 : sho.at1 7 65024 6144 = true := by kernel_rfl
theorem w14 : sho.at1 7 65024 7168 = true := by kernel_rfl
theorem w16 : sho.at1 7 65024 8192 = true := by kernel_rfl
theorem w18 : sho.at1 7 65024 9216 = true := by kernel_rfl
theorem w20 : sho.at1 7 65024 10240 = true := by kernel_rfl
theorem w22 : sho.at1 7 65024 11264 = true := by kernel_rfl
theorem w24 : sho.at1 7 65024 12288 = true := by kernel_rfl
theorem w26 : sho.at1 7 65024 13312 = true := by kernel_rfl
theorem w28 : sho.at1 7 65024 14336 = true := by kernel_rfl
theorem w30 : sho.at1 7 65024 15360 = true := by kernel_rfl
theorem w32 : sho.at1 7 65472 16384 = true := by kernel_rfl
theorem w34 : sho.at1 7 65472 16512 = true := by kernel_rfl
theorem w36 : sho.at1 7 65472 16640 = true := by kernel_rfl
theorem w38 : sho.at1 7 65472 16768 = true := by kernel_rfl
theorem w40 : sho.at1 7 65472 16896 = true := by kernel_rfl
theorem w42 : sho.at1 7 65472 17024 = true := by kernel_rfl
theorem w44 : sho.at1 7 65472 17152 = true := by kernel_rfl
theorem w46 : sho.at1 7 65472 17280 = true := by kernel_rfl
theorem w48 : sho.at1 7 65280 17408 = true := by kernel_rfl
theorem w50 : sho.at1 7 65280 17920 = true := by kernel_rfl
theorem w52 : sho.at1 7 63488 18432 = true := by kernel_rfl
theorem w54 : sho.at1 7 65024 20992 = true := by kernel_rfl
theorem w56 : sho.at1 7 65024 22016 = true := by kernel_rfl
theorem w58 : sho.at1 7 65024 23040 = true := by kernel_rfl
theorem w60 : sho.at1 7 65024 24064 = true := by kernel_rfl
theorem w62 : sho.at1 7 63488 26624 = true := by kernel_rfl
theorem w64 : sho.at1 7 63488 30720 = true := by kernel_rfl
theorem w66 : sho.at1 7 63488 34816 = true := by kernel_rfl
theorem w68 : sho.at1 7 63488 38912 = true := by kernel_rfl
theorem w70 : sho.at1 7 63488 43008 = true := by kernel_rfl
theorem w72 : sho.at1 7 65280 45312 = true := by kernel_rfl
theorem w74 : sho.at1 7 65280 45824 = true := by kernel_rfl
theorem w76 : sho.at1 7 65280 46336 = true := by kernel_rfl
theorem w78 : sho.at1 7 65280 46848 = true := by kernel_rfl
theorem w80 : sho.at1 7 65280 47360 = true := by kernel_rfl
theorem w82 : sho.at1 7 65280 47872 = true := by kernel_rfl
theorem w84 : sho.at1 7 65280 48384 = true := by kernel_rfl
theorem w86 : sho.at1 7 65280 48896 = true := by kernel_rfl
theorem w88 : sho.at1 7 63488 51200 = true := by kernel_rfl
theorem w90 : sho.at1 7 63488 57344 = true := by kernel_rfl
theorem w92 : sho.at1 7 63488 61440 = true := by kernel_rfl
end Go.Proofs.YtaiecnepchndkaaDoor.shortBlocks
