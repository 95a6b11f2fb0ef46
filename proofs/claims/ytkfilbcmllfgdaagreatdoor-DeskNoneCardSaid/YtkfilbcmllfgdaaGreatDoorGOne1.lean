/- For the seat: reading a line, one of three, by running it. -/
import Derived.Test.YtkfilbcmllfgdaaGreatDoorGOne
namespace Go.Proofs.YtkfilbcmllfgdaaGreatDoor
open Go.Sx Go.RowKit
set_option maxRecDepth 100000 in
theorem one.ok1 : memoB gx.cx 20000 45 one.m1 = true := by kernel_rfl
end Go.Proofs.YtkfilbcmllfgdaaGreatDoor
