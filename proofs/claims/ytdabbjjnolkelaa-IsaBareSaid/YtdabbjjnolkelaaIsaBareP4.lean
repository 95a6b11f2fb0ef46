/- IsaBare: the walks at some cases of the input. -/
import Derived.Test.YtdabbjjnolkelaaIsaBareDef
namespace Go.Proofs.Ytdabbjjnolkelaa.isaBare
open Go.Sx
set_option maxRecDepth 100000
theorem its0 : its 0 = true := by kernel_rfl
theorem its5 : its 5 = true := by kernel_rfl
theorem its10 : its 10 = true := by kernel_rfl
end Go.Proofs.Ytdabbjjnolkelaa.isaBare
