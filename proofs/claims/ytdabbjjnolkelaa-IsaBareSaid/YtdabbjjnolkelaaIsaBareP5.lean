/- IsaBare: the walks at some cases of the input. -/
import Derived.Test.YtdabbjjnolkelaaIsaBareDef
namespace Go.Proofs.Ytdabbjjnolkelaa.isaBare
open Go.Sx
set_option maxRecDepth 100000
theorem its1 : its 1 = true := by kernel_rfl
theorem its6 : its 6 = true := by kernel_rfl
theorem its11 : its 11 = true := by kernel_rfl
end Go.Proofs.Ytdabbjjnolkelaa.isaBare
