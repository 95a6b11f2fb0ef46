/- For the seat: texts joined: HE0, HE1, HE2, HO0, HO1, HO2. -/
import Derived.Test.YtdeelhbckfmaeaaGreatDoorJHz
/- For the seat: cartoucheref07.Encode at a line of the example, by running it. -/
namespace Go.Proofs.YtdeelhbckfmaeaaGreatDoor
open Go.Sx Go.RowKit
set_option maxRecDepth 100000 in
theorem hx.eok0 : memoB gx.cx 20000 164 hx.e0 = true := by kernel_rfl
end Go.Proofs.YtdeelhbckfmaeaaGreatDoor
/- For the seat: cartoucheref07.Encode at a line of the example, by running it. -/
namespace Go.Proofs.YtdeelhbckfmaeaaGreatDoor
open Go.Sx Go.RowKit
set_option maxRecDepth 100000 in
theorem hx.eok1 : memoB gx.cx 20000 164 hx.e1 = true := by kernel_rfl
end Go.Proofs.YtdeelhbckfmaeaaGreatDoor
/- For the seat: cartoucheref07.Encode at a line of the example, by running it. -/
namespace Go.Proofs.YtdeelhbckfmaeaaGreatDoor
open Go.Sx Go.RowKit
set_option maxRecDepth 100000 in
theorem hx.eok2 : memoB gx.cx 20000 164 hx.e2 = true := by kernel_rfl
end Go.Proofs.YtdeelhbckfmaeaaGreatDoor
/- For the seat: cartoucheref19.One at a line of the example, by running it. -/
namespace Go.Proofs.YtdeelhbckfmaeaaGreatDoor
open Go.Sx Go.RowKit
set_option maxRecDepth 100000 in
theorem hx.ook0 : memoB gx.cx 20000 56 hx.o0 = true := by kernel_rfl
end Go.Proofs.YtdeelhbckfmaeaaGreatDoor
/- For the seat: cartoucheref19.One at a line of the example, by running it. -/
namespace Go.Proofs.YtdeelhbckfmaeaaGreatDoor
open Go.Sx Go.RowKit
set_option maxRecDepth 100000 in
theorem hx.ook1 : memoB gx.cx 20000 56 hx.o1 = true := by kernel_rfl
end Go.Proofs.YtdeelhbckfmaeaaGreatDoor
/- For the seat: cartoucheref19.One at a line of the example, by running it. -/
namespace Go.Proofs.YtdeelhbckfmaeaaGreatDoor
open Go.Sx Go.RowKit
set_option maxRecDepth 100000 in
theorem hx.ook2 : memoB gx.cx 20000 56 hx.o2 = true := by kernel_rfl
end Go.Proofs.YtdeelhbckfmaeaaGreatDoor
