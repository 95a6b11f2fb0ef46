/- For the seat: texts joined: StpP0. -/
import Derived.Test.YthbdmlcbdibiiaaGreatDoorJL3x0
/- The machine's step at literals: some rows, by the kernel. -/
namespace Go.Proofs.YthbdmlcbdibiiaaGreatDoor
set_option maxRecDepth 100000 in
theorem stp.r0 : stp.goes (stp.rows.getD 0 ⟨[], stp.mk 0 0 false false, stp.mk 0 0 false false, 0⟩) = true := by kernel_rfl
set_option maxRecDepth 100000 in
theorem stp.r3 : stp.goes (stp.rows.getD 3 ⟨[], stp.mk 0 0 false false, stp.mk 0 0 false false, 0⟩) = true := by kernel_rfl
set_option maxRecDepth 100000 in
theorem stp.r6 : stp.goes (stp.rows.getD 6 ⟨[], stp.mk 0 0 false false, stp.mk 0 0 false false, 0⟩) = true := by kernel_rfl
set_option maxRecDepth 100000 in
theorem stp.r9 : stp.goes (stp.rows.getD 9 ⟨[], stp.mk 0 0 false false, stp.mk 0 0 false false, 0⟩) = true := by kernel_rfl
end Go.Proofs.YthbdmlcbdibiiaaGreatDoor
