/- IsaBare: the walks at some cases of the input. -/
import Derived.Test.YtdabbjjnolkelaaIsaBareDef
namespace Go.Proofs.Ytdabbjjnolkelaa.isaBare
open Go.Sx
set_option maxRecDepth 100000
theorem go1 : goes 1 = true := by kernel_rfl
theorem go5 : goes 5 = true := by kernel_rfl
theorem go9 : goes 9 = true := by kernel_rfl
theorem go13 : goes 13 = true := by kernel_rfl
theorem go17 : goes 17 = true := by kernel_rfl
theorem go21 : goes 21 = true := by kernel_rfl
theorem go25 : goes 25 = true := by kernel_rfl
theorem go29 : goes 29 = true := by kernel_rfl
theorem go33 : goes 33 = true := by kernel_rfl
theorem go37 : goes 37 = true := by kernel_rfl
theorem go41 : goes 41 = true := by kernel_rfl
theorem it_a : at' (.num 42) (v 1) (v 3) (v 5) [lt (v 1) 0] = true := by kernel_rfl
end Go.Proofs.Ytdabbjjnolkelaa.isaBare
