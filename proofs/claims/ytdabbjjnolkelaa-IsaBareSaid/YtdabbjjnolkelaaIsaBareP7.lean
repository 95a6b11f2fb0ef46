/- IsaBare: the walks at some cases of the input. -/
import Derived.Test.YtdabbjjnolkelaaIsaBareDef
namespace Go.Proofs.Ytdabbjjnolkelaa.isaBare
open Go.Sx
set_option maxRecDepth 100000
theorem its3 : its 3 = true := by kernel_rfl
theorem its8 : its 8 = true := by kernel_rfl
theorem its13 : its 13 = true := by kernel_rfl
end Go.Proofs.Ytdabbjjnolkelaa.isaBare
