/- For the seat: texts joined: HP0, HP1. -/
import Derived.Test.YtdeelhbckfmaeaaGreatDoorJHz
/- For the seat: source.One at a line of the example, by running it. -/
namespace Go.Proofs.YtdeelhbckfmaeaaGreatDoor
open Go.Sx Go.RowKit
set_option maxRecDepth 100000 in
theorem hx.pok0 : memoB gx.cx 20000 120 hx.p0 = true := by kernel_rfl
end Go.Proofs.YtdeelhbckfmaeaaGreatDoor
/- For the seat: source.One at a line of the example, by running it. -/
namespace Go.Proofs.YtdeelhbckfmaeaaGreatDoor
open Go.Sx Go.RowKit
set_option maxRecDepth 100000 in
theorem hx.pok1 : memoB gx.cx 20000 120 hx.p1 = true := by kernel_rfl
end Go.Proofs.YtdeelhbckfmaeaaGreatDoor
