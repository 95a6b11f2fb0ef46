/- IsaBare: the walks at some cases of the input. -/
import Derived.Test.YtdabbjjnolkelaaIsaBareDef
namespace Go.Proofs.Ytdabbjjnolkelaa.isaBare
open Go.Sx
set_option maxRecDepth 100000
theorem low : at' (v 0) (v 1) (v 3) (v 5) [lt (v 0) 1] = true := by kernel_rfl
theorem go3 : goes 3 = true := by kernel_rfl
theorem go7 : goes 7 = true := by kernel_rfl
theorem go11 : goes 11 = true := by kernel_rfl
theorem go15 : goes 15 = true := by kernel_rfl
theorem go19 : goes 19 = true := by kernel_rfl
theorem go23 : goes 23 = true := by kernel_rfl
theorem go27 : goes 27 = true := by kernel_rfl
theorem go31 : goes 31 = true := by kernel_rfl
theorem go35 : goes 35 = true := by kernel_rfl
theorem go39 : goes 39 = true := by kernel_rfl
theorem go44 : goes 44 = true := by kernel_rfl
theorem it_c : at' (.num 42) (v 1) (v 3) (v 5) [no (lt (v 1) 0), no (gt (v 1) 14), lt (v 5) 1] = true := by kernel_rfl
end Go.Proofs.Ytdabbjjnolkelaa.isaBare
