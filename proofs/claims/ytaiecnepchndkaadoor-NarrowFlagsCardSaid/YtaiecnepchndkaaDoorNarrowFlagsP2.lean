/- NarrowFlags: the walks at some cases of the input. -/
import Derived.Test.YtaiecnepchndkaaDoorNarDef
namespace Go.Proofs.YtaiecnepchndkaaDoor.narrowFlags
open Go.Sx
set_option maxRecDepth 100000
theorem go1 : nar.at1 11 (.num (Int.ofNat 1)) kn0 = true := by kernel_rfl
theorem go5 : nar.at1 11 (.num (Int.ofNat 5)) kn0 = true := by kernel_rfl
theorem go9 : nar.at1 11 (.num (Int.ofNat 9)) kn0 = true := by kernel_rfl
theorem go13 : nar.at1 11 (.num (Int.ofNat 13)) kn0 = true := by kernel_rfl
theorem go17 : nar.at1 11 (.num (Int.ofNat 17)) kn0 = true := by kernel_rfl
theorem go21 : nar.at1 11 (.num (Int.ofNat 21)) kn0 = true := by kernel_rfl
theorem go25 : nar.at1 11 (.num (Int.ofNat 25)) kn0 = true := by kernel_rfl
theorem go29 : nar.at1 11 (.num (Int.ofNat 29)) kn0 = true := by kernel_rfl
theorem go33 : nar.at1 11 (.num (Int.ofNat 33)) kn0 = true := by kernel_rfl
theorem go37 : nar.at1 11 (.num (Int.ofNat 37)) kn0 = true := by kernel_rfl
theorem go41 : nar.at1 11 (.num (Int.ofNat 41)) kn0 = true := by kernel_rfl
theorem go45 : nar.at1 11 (.num (Int.ofNat 45)) kn0 = true := by kernel_rfl
end Go.Proofs.YtaiecnepchndkaaDoor.narrowFlags
