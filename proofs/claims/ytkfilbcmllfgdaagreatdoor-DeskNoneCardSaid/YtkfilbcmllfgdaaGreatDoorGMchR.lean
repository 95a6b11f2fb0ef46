/- For the seat: the run of the examples. -/
import Derived.Test.YtkfilbcmllfgdaaGreatDoorGMch
namespace Go.Proofs.YtkfilbcmllfgdaaGreatDoor
open Go.Sx Go.RowKit
set_option maxRecDepth 100000 in
theorem mch.okR : memoB gx.cx 20000 14 mch.r = true := by kernel_rfl
end Go.Proofs.YtkfilbcmllfgdaaGreatDoor
