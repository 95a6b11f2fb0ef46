/- NarrowFlags: the walks at some cases of the input. -/
import Derived.Test.YtaiecnepchndkaaDoorNarDef
namespace Go.Proofs.YtaiecnepchndkaaDoor.narrowFlags
open Go.Sx
set_option maxRecDepth 100000
theorem go4 : nar.at1 11 (.num (Int.ofNat 4)) kn0 = true := by kernel_rfl
theorem go8 : nar.at1 11 (.num (Int.ofNat 8)) kn0 = true := by kernel_rfl
theorem go12 : nar.at1 11 (.num (Int.ofNat 12)) kn0 = true := by kernel_rfl
theorem go16 : nar.at1 11 (.num (Int.ofNat 16)) kn0 = true := by kernel_rfl
theorem go20 : nar.at1 11 (.num (Int.ofNat 20)) kn0 = true := by kernel_rfl
theorem go24 : nar.at1 11 (.num (Int.ofNat 24)) kn0 = true := by kernel_rfl
theorem go28 : nar.at1 11 (.num (Int.ofNat 28)) kn0 = true := by kernel_rfl
theorem go32 : nar.at1 11 (.num (Int.ofNat 32)) kn0 = true := by kernel_rfl
theorem go36 : nar.at1 11 (.num (Int.ofNat 36)) kn0 = true := by kernel_rfl
theorem go40 : nar.at1 11 (.num (Int.ofNat 40)) kn0 = true := by kernel_rfl
theorem go44 : nar.at1 11 (.num (Int.ofNat 44)) kn0 = true := by kernel_rfl
end Go.Proofs.YtaiecnepchndkaaDoor.narrowFlags
