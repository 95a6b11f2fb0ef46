/- NarrowEncodes: the walks at some cases of the input. -/
import Derived.Test.YtaiecnepchndkaaDoorNarDef
namespace Go.Proofs.YtaiecnepchndkaaDoor.narrowEncodes
open Go.Sx
set_option maxRecDepth 100000
theorem go3 : nar.at2 8 (.num (Int.ofNat 3)) kn0 = true := by kernel_rfl
theorem go7 : nar.at2 8 (.num (Int.ofNat 7)) kn0 = true := by kernel_rfl
theorem go11 : nar.at2 8 (.num (Int.ofNat 11)) kn0 = true := by kernel_rfl
theorem go15 : nar.at2 8 (.num (Int.ofNat 15)) kn0 = true := by kernel_rfl
theorem go19 : nar.at2 8 (.num (Int.ofNat 19)) kn0 = true := by kernel_rfl
theorem go23 : nar.at2 8 (.num (Int.ofNat 23)) kn0 = true := by kernel_rfl
theorem go27 : nar.at2 8 (.num (Int.ofNat 27)) kn0 = true := by kernel_rfl
theorem go31 : nar.at2 8 (.num (Int.ofNat 31)) kn0 = true := by kernel_rfl
theorem go35 : nar.at2 8 (.num (Int.ofNat 35)) kn0 = true := by kernel_rfl
theorem go39 : nar.at2 8 (.num (Int.ofNat 39)) kn0 = true := by kernel_rfl
theorem go43 : nar.at2 8 (.num (Int.ofNat 43)) kn0 = true := by kernel_rfl
end Go.Proofs.YtaiecnepchndkaaDoor.narrowEncodes
