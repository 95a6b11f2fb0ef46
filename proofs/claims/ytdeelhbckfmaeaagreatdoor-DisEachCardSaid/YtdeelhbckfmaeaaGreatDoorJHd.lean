/- For the seat: texts joined: HL0, HL1. -/
import Derived.Test.YtdeelhbckfmaeaaGreatDoorJHz
/- For the seat: source.line at a line of the example, by running it. -/
namespace Go.Proofs.YtdeelhbckfmaeaaGreatDoor
open Go.Sx Go.RowKit
set_option maxRecDepth 100000 in
theorem hx.lok0 : memoC gx.cx hx.S1 20000 66 hx.l0 = true := by kernel_rfl
end Go.Proofs.YtdeelhbckfmaeaaGreatDoor
/- For the seat: source.line at a line of the example, by running it. -/
namespace Go.Proofs.YtdeelhbckfmaeaaGreatDoor
open Go.Sx Go.RowKit
set_option maxRecDepth 100000 in
theorem hx.lok1 : memoC gx.cx hx.S1 20000 66 hx.l1 = true := by kernel_rfl
end Go.Proofs.YtdeelhbckfmaeaaGreatDoor
