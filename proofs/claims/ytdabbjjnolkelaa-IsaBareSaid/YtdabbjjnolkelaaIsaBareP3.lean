/- IsaBare: the walks at some cases of the input. -/
import Derived.Test.YtdabbjjnolkelaaIsaBareDef
namespace Go.Proofs.Ytdabbjjnolkelaa.isaBare
open Go.Sx
set_option maxRecDepth 100000
theorem go2 : goes 2 = true := by kernel_rfl
theorem go6 : goes 6 = true := by kernel_rfl
theorem go10 : goes 10 = true := by kernel_rfl
theorem go14 : goes 14 = true := by kernel_rfl
theorem go18 : goes 18 = true := by kernel_rfl
theorem go22 : goes 22 = true := by kernel_rfl
theorem go26 : goes 26 = true := by kernel_rfl
theorem go30 : goes 30 = true := by kernel_rfl
theorem go34 : goes 34 = true := by kernel_rfl
theorem go38 : goes 38 = true := by kernel_rfl
theorem go43 : goes 43 = true := by kernel_rfl
theorem it_b : at' (.num 42) (v 1) (v 3) (v 5) [no (lt (v 1) 0), gt (v 1) 14] = true := by kernel_rfl
end Go.Proofs.Ytdabbjjnolkelaa.isaBare
