/- IsaBare: the walks at some cases of the input. -/
import Derived.Test.YtdabbjjnolkelaaIsaBareDef
namespace Go.Proofs.Ytdabbjjnolkelaa.isaBare
open Go.Sx
set_option maxRecDepth 100000
theorem its4 : its 4 = true := by kernel_rfl
theorem its9 : its 9 = true := by kernel_rfl
theorem its14 : its 14 = true := by kernel_rfl
end Go.Proofs.Ytdabbjjnolkelaa.isaBare
