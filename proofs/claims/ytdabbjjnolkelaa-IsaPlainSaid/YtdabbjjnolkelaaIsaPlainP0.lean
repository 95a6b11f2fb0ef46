/- IsaPlain: the walks at some cases of the input. -/
import Derived.Test.YtdabbjjnolkelaaIsaPlainDef
namespace Go.Proofs.Ytdabbjjnolkelaa.isaPlain
open Go.Sx
set_option maxRecDepth 100000
theorem low : at' (v 0) (v 1) (v 3) (v 5) [lt (v 0) 1] = true := by kernel_rfl
theorem go1 : goes 1 = true := by kernel_rfl
theorem go3 : goes 3 = true := by kernel_rfl
theorem go5 : goes 5 = true := by kernel_rfl
theorem go7 : goes 7 = true := by kernel_rfl
theorem go9 : goes 9 = true := by kernel_rfl
theorem go11 : goes 11 = true := by kernel_rfl
theorem go13 : goes 13 = true := by kernel_rfl
theorem go15 : goes 15 = true := by kernel_rfl
theorem go17 : goes 17 = true := by kernel_rfl
theorem go19 : goes 19 = true := by kernel_rfl
theorem go21 : goes 21 = true := by kernel_rfl
theorem go23 : goes 23 = true := by kernel_rfl
theorem go25 : goes 25 = true := by kernel_rfl
theorem go27 : goes 27 = true := by kernel_rfl
theorem go29 : goes 29 = true := by kernel_rfl
theorem go33 : goes 33 = true := by kernel_rfl
theorem go35 : goes 35 = true := by kernel_rfl
theorem go37 : goes 37 = true := by kernel_rfl
theorem go39 : goes 39 = true := by kernel_rfl
theorem go41 : goes 41 = true := by kernel_rfl
theorem go44 : goes 44 = true := by kernel_rfl
theorem go31a : at' (.num 31) (v 1) (v 3) (v 5) [no (ge 0 (v 3))] = true := by kernel_rfl
theorem go32a : at' (.num 32) (v 1) (v 3) (v 5) [no (ge 0 (v 3))] = true := by kernel_rfl
theorem it_a : at' (.num 42) (v 1) (v 3) (v 5) [lt (v 1) 0] = true := by kernel_rfl
theorem it_c : at' (.num 42) (v 1) (v 3) (v 5) [no (lt (v 1) 0), no (gt (v 1) 14), lt (v 5) 1] = true := by kernel_rfl
end Go.Proofs.Ytdabbjjnolkelaa.isaPlain
