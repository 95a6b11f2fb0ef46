/- For the seat: texts joined: HP2. -/
import Derived.Test.YtdeelhbckfmaeaaGreatDoorJHz
/- For the seat: source.One at a line of the example, by running it. -/
namespace Go.Proofs.YtdeelhbckfmaeaaGreatDoor
open Go.Sx Go.RowKit
set_option maxRecDepth 100000 in
theorem hx.pok2 : memoB gx.cx 20000 120 hx.p2 = true := by kernel_rfl
end Go.Proofs.YtdeelhbckfmaeaaGreatDoor
