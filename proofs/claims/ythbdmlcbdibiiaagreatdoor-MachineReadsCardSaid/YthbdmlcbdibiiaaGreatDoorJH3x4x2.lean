/- For the seat: texts joined: StpP2. -/
import Derived.Test.YthbdmlcbdibiiaaGreatDoorJL3x0
/- The machine's step at literals: some rows, by the kernel. -/
namespace Go.Proofs.YthbdmlcbdibiiaaGreatDoor
set_option maxRecDepth 100000 in
theorem stp.r2 : stp.goes (stp.rows.getD 2 ⟨[], stp.mk 0 0 false false, stp.mk 0 0 false false, 0⟩) = true := by kernel_rfl
set_option maxRecDepth 100000 in
theorem stp.r5 : stp.goes (stp.rows.getD 5 ⟨[], stp.mk 0 0 false false, stp.mk 0 0 false false, 0⟩) = true := by kernel_rfl
set_option maxRecDepth 100000 in
theorem stp.r8 : stp.goes (stp.rows.getD 8 ⟨[], stp.mk 0 0 false false, stp.mk 0 0 false false, 0⟩) = true := by kernel_rfl
end Go.Proofs.YthbdmlcbdibiiaaGreatDoor
