/- For the seat: texts joined: DlJC, DlJD. -/
import Derived.Test.YtdeelhbckfmaeaaGreatDoorJX
import Derived.JoinedOf
/- DisLabels: closed facts of its program, the greater ones alone. -/
namespace Go.Proofs.YtdeelhbckfmaeaaGreatDoor.disLabels
open Go
set_option maxRecDepth 100000 in
theorem jRec : Tryz.prog.recurses 4 = true := by kernel_rfl
set_option maxRecDepth 100000 in
theorem jHeard : Tryz.prog.stopsHeard = true := by kernel_rfl
end Go.Proofs.YtdeelhbckfmaeaaGreatDoor.disLabels
/- DisLabels: closed facts of its program, the greater ones alone. -/
namespace Go.Proofs.YtdeelhbckfmaeaaGreatDoor.disLabels
open Go
set_option maxRecDepth 100000 in
theorem jNamed : Tryz.prog.varsNamed 4 = Rows.disLabelsRow.named := by kernel_rfl
set_option maxRecDepth 100000 in
theorem jKeys : Tryz.prog.plainKeys = true := by kernel_rfl
end Go.Proofs.YtdeelhbckfmaeaaGreatDoor.disLabels
