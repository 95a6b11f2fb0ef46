/- IsaPlain: the walks at some cases of the input. -/
import Derived.Test.YtdabbjjnolkelaaIsaPlainDef
namespace Go.Proofs.Ytdabbjjnolkelaa.isaPlain
open Go.Sx
set_option maxRecDepth 100000
theorem high : at' (v 0) (v 1) (v 3) (v 5) [no (lt (v 0) 1), gt (v 0) 45] = true := by kernel_rfl
theorem go2 : goes 2 = true := by kernel_rfl
theorem go4 : goes 4 = true := by kernel_rfl
theorem go6 : goes 6 = true := by kernel_rfl
theorem go8 : goes 8 = true := by kernel_rfl
theorem go10 : goes 10 = true := by kernel_rfl
theorem go12 : goes 12 = true := by kernel_rfl
theorem go14 : goes 14 = true := by kernel_rfl
theorem go16 : goes 16 = true := by kernel_rfl
theorem go18 : goes 18 = true := by kernel_rfl
theorem go20 : goes 20 = true := by kernel_rfl
theorem go22 : goes 22 = true := by kernel_rfl
theorem go24 : goes 24 = true := by kernel_rfl
theorem go26 : goes 26 = true := by kernel_rfl
theorem go28 : goes 28 = true := by kernel_rfl
theorem go30 : goes 30 = true := by kernel_rfl
theorem go34 : goes 34 = true := by kernel_rfl
theorem go36 : goes 36 = true := by kernel_rfl
theorem go38 : goes 38 = true := by kernel_rfl
theorem go40 : goes 40 = true := by kernel_rfl
theorem go43 : goes 43 = true := by kernel_rfl
theorem go45 : goes 45 = true := by kernel_rfl
theorem go31b : at' (.num 31) (v 1) (v 3) (v 5) [ge 0 (v 3), no (le (v 3) 15)] = true := by kernel_rfl
theorem go32b : at' (.num 32) (v 1) (v 3) (v 5) [ge 0 (v 3), no (le (v 3) 15)] = true := by kernel_rfl
theorem it_b : at' (.num 42) (v 1) (v 3) (v 5) [no (lt (v 1) 0), gt (v 1) 14] = true := by kernel_rfl
theorem it_d : at' (.num 42) (v 1) (v 3) (v 5) [no (lt (v 1) 0), no (gt (v 1) 14), no (lt (v 5) 1), gt (v 5) 15] = true := by kernel_rfl
end Go.Proofs.Ytdabbjjnolkelaa.isaPlain
