/- For the seat: texts joined: ExeP2. -/
import Derived.Test.YthbdmlcbdibiiaaGreatDoorJL2x0
/- Exec of both packages: some of its cases, by the kernel. -/
namespace Go.Proofs.YthbdmlcbdibiiaaGreatDoor
set_option maxRecDepth 100000 in
theorem exe.c8x1 : exe.caseAt 8 1 = true := by kernel_rfl
set_option maxRecDepth 100000 in
theorem exe.c9x0 : exe.caseAt 9 0 = true := by kernel_rfl
set_option maxRecDepth 100000 in
theorem exe.c10x1 : exe.caseAt 10 1 = true := by kernel_rfl
set_option maxRecDepth 100000 in
theorem exe.c14x2 : exe.caseAt 14 2 = true := by kernel_rfl
set_option maxRecDepth 100000 in
theorem exe.c18x0 : exe.caseAt 18 0 = true := by kernel_rfl
set_option maxRecDepth 100000 in
theorem exe.c29x0 : exe.caseAt 29 0 = true := by kernel_rfl
set_option maxRecDepth 100000 in
theorem exe.c31x7 : exe.caseAt 31 7 = true := by kernel_rfl
set_option maxRecDepth 100000 in
theorem exe.c31x12 : exe.caseAt 31 12 = true := by kernel_rfl
set_option maxRecDepth 100000 in
theorem exe.c32x25 : exe.caseAt 32 25 = true := by kernel_rfl
set_option maxRecDepth 100000 in
theorem exe.c32x31 : exe.caseAt 32 31 = true := by kernel_rfl
set_option maxRecDepth 100000 in
theorem exe.c32x59 : exe.caseAt 32 59 = true := by kernel_rfl
set_option maxRecDepth 100000 in
theorem exe.c32x67 : exe.caseAt 32 67 = true := by kernel_rfl
set_option maxRecDepth 100000 in
theorem exe.c32x68 : exe.caseAt 32 68 = true := by kernel_rfl
set_option maxRecDepth 100000 in
theorem exe.c32x70 : exe.caseAt 32 70 = true := by kernel_rfl
set_option maxRecDepth 100000 in
theorem exe.c32x75 : exe.caseAt 32 75 = true := by kernel_rfl
set_option maxRecDepth 100000 in
theorem exe.c32x90 : exe.caseAt 32 90 = true := by kernel_rfl
set_option maxRecDepth 100000 in
theorem exe.c32x101 : exe.caseAt 32 101 = true := by kernel_rfl
set_option maxRecDepth 100000 in
theorem exe.c32x106 : exe.caseAt 32 106 = true := by kernel_rfl
set_option maxRecDepth 100000 in
theorem exe.c33x13 : exe.caseAt 33 13 = true := by kernel_rfl
set_option maxRecDepth 100000 in
theorem exe.c33x17 : exe.caseAt 33 17 = true := by kernel_rfl
set_option maxRecDepth 100000 in
theorem exe.c33x25 : exe.caseAt 33 25 = true := by kernel_rfl
set_option maxRecDepth 100000 in
theorem exe.c33x43 : exe.caseAt 33 43 = true := by kernel_rfl
set_option maxRecDepth 100000 in
theorem exe.c33x65 : exe.caseAt 33 65 = true := by kernel_rfl
set_option maxRecDepth 100000 in
theorem exe.c33x70 : exe.caseAt 33 70 = true := by kernel_rfl
set_option maxRecDepth 100000 in
theorem exe.c33x72 : exe.caseAt 33 72 = true := by kernel_rfl
set_option maxRecDepth 100000 in
theorem exe.c33x103 : exe.caseAt 33 103 = true := by kernel_rfl
set_option maxRecDepth 100000 in
theorem exe.c33x109 : exe.caseAt 33 109 = true := by kernel_rfl
set_option maxRecDepth 100000 in
theorem exe.c34x3 : exe.caseAt 34 3 = true := by kernel_rfl
set_option maxRecDepth 100000 in
theorem exe.c41x0 : exe.caseAt 41 0 = true := by kernel_rfl
end Go.Proofs.YthbdmlcbdibiiaaGreatDoor
