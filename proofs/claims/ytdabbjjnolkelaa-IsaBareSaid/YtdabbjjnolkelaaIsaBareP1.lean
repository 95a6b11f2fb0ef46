/- IsaBare: the walks at some cases of the input. -/
import Derived.Test.YtdabbjjnolkelaaIsaBareDef
namespace Go.Proofs.Ytdabbjjnolkelaa.isaBare
open Go.Sx
set_option maxRecDepth 100000
theorem high : at' (v 0) (v 1) (v 3) (v 5) [no (lt (v 0) 1), gt (v 0) 45] = true := by kernel_rfl
theorem go4 : goes 4 = true := by kernel_rfl
theorem go8 : goes 8 = true := by kernel_rfl
theorem go12 : goes 12 = true := by kernel_rfl
theorem go16 : goes 16 = true := by kernel_rfl
theorem go20 : goes 20 = true := by kernel_rfl
theorem go24 : goes 24 = true := by kernel_rfl
theorem go28 : goes 28 = true := by kernel_rfl
theorem go32 : goes 32 = true := by kernel_rfl
theorem go36 : goes 36 = true := by kernel_rfl
theorem go40 : goes 40 = true := by kernel_rfl
theorem go45 : goes 45 = true := by kernel_rfl
theorem it_d : at' (.num 42) (v 1) (v 3) (v 5) [no (lt (v 1) 0), no (gt (v 1) 14), no (lt (v 5) 1), gt (v 5) 15] = true := by kernel_rfl
end Go.Proofs.Ytdabbjjnolkelaa.isaBare
