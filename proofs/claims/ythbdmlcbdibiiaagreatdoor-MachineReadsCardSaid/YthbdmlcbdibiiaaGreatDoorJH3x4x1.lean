/- For the seat: texts joined: StpP1. -/
import Derived.Test.YthbdmlcbdibiiaaGreatDoorJL3x0
/- The machine's step at literals: some rows, by the kernel. -/
namespace Go.Proofs.YthbdmlcbdibiiaaGreatDoor
set_option maxRecDepth 100000 in
theorem stp.r1 : stp.goes (stp.rows.getD 1 ⟨[], stp.mk 0 0 false false, stp.mk 0 0 false false, 0⟩) = true := by kernel_rfl
set_option maxRecDepth 100000 in
theorem stp.r4 : stp.goes (stp.rows.getD 4 ⟨[], stp.mk 0 0 false false, stp.mk 0 0 false false, 0⟩) = true := by kernel_rfl
set_option maxRecDepth 100000 in
theorem stp.r7 : stp.goes (stp.rows.getD 7 ⟨[], stp.mk 0 0 false false, stp.mk 0 0 false false, 0⟩) = true := by kernel_rfl
set_option maxRecDepth 100000 in
theorem stp.r10 : stp.goes (stp.rows.getD 10 ⟨[], stp.mk 0 0 false false, stp.mk 0 0 false false, 0⟩) = true := by kernel_rfl
end Go.Proofs.YthbdmlcbdibiiaaGreatDoor
