/- NarrowHalf: the walks at some cases of the input. -/
import Derived.Test.YtaiecnepchndkaaDoorNarDef
namespace Go.Proofs.YtaiecnepchndkaaDoor.narrowHalf
open Go.Sx
set_option maxRecDepth 100000
theorem go2 : nar.at2 9 (.num (Int.ofNat 2)) kn0 = true := by kernel_rfl
theorem go6 : nar.at2 9 (.num (Int.ofNat 6)) kn0 = true := by kernel_rfl
theorem go10 : nar.at2 9 (.num (Int.ofNat 10)) kn0 = true := by kernel_rfl
theorem go14 : nar.at2 9 (.num (Int.ofNat 14)) kn0 = true := by kernel_rfl
theorem go18 : nar.at2 9 (.num (Int.ofNat 18)) kn0 = true := by kernel_rfl
theorem go22 : nar.at2 9 (.num (Int.ofNat 22)) kn0 = true := by kernel_rfl
theorem go26 : nar.at2 9 (.num (Int.ofNat 26)) kn0 = true := by kernel_rfl
theorem go30 : nar.at2 9 (.num (Int.ofNat 30)) kn0 = true := by kernel_rfl
theorem go34 : nar.at2 9 (.num (Int.ofNat 34)) kn0 = true := by kernel_rfl
theorem go38 : nar.at2 9 (.num (Int.ofNat 38)) kn0 = true := by kernel_rfl
theorem go42 : nar.at2 9 (.num (Int.ofNat 42)) kn0 = true := by kernel_rfl
end Go.Proofs.YtaiecnepchndkaaDoor.narrowHalf
