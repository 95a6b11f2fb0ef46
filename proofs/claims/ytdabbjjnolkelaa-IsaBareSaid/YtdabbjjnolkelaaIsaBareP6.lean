/- IsaBare: the walks at some cases of the input. -/
import Derived.Test.YtdabbjjnolkelaaIsaBareDef
namespace Go.Proofs.Ytdabbjjnolkelaa.isaBare
open Go.Sx
set_option maxRecDepth 100000
theorem its2 : its 2 = true := by kernel_rfl
theorem its7 : its 7 = true := by kernel_rfl
theorem its12 : its 12 = true := by kernel_rfl
end Go.Proofs.Ytdabbjjnolkelaa.isaBare
