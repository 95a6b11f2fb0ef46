/- For the seat: texts joined: HAs, HAwG. -/
import Derived.Test.YtdeelhbckfmaeaaGreatDoorJHz
/- For the seat: assembling the text of the example, by running it. -/
namespace Go.Proofs.YtdeelhbckfmaeaaGreatDoor
open Go.Sx Go.RowKit
set_option maxRecDepth 100000 in
theorem hx.asm : memoE gx.cx hx.S3 20000 19 hx.aA hx.aV hx.aH hx.aM = true := by kernel_rfl
end Go.Proofs.YtdeelhbckfmaeaaGreatDoor
/- For the seat: chapter 27's example, by running it. -/
namespace Go.Proofs.YtdeelhbckfmaeaaGreatDoor
open Go.Sx Go.RowKit
set_option maxRecDepth 100000 in
theorem hx.goes : gx.goes hx.S2 11 [] = true := by kernel_rfl
end Go.Proofs.YtdeelhbckfmaeaaGreatDoor
