/- For the seat: texts joined: ExeP10. -/
import Derived.Test.YthbdmlcbdibiiaaGreatDoorJL2x0
/- Exec of both packages: some of its cases, by the kernel. -/
namespace Go.Proofs.YthbdmlcbdibiiaaGreatDoor
set_option maxRecDepth 100000 in
theorem exe.c5x1 : exe.caseAt 5 1 = true := by kernel_rfl
set_option maxRecDepth 100000 in
theorem exe.c15x1 : exe.caseAt 15 1 = true := by kernel_rfl
set_option maxRecDepth 100000 in
theorem exe.c27x1 : exe.caseAt 27 1 = true := by kernel_rfl
set_option maxRecDepth 100000 in
theorem exe.c29x1 : exe.caseAt 29 1 = true := by kernel_rfl
set_option maxRecDepth 100000 in
theorem exe.c32x13 : exe.caseAt 32 13 = true := by kernel_rfl
set_option maxRecDepth 100000 in
theorem exe.c32x15 : exe.caseAt 32 15 = true := by kernel_rfl
set_option maxRecDepth 100000 in
theorem exe.c32x18 : exe.caseAt 32 18 = true := by kernel_rfl
set_option maxRecDepth 100000 in
theorem exe.c32x33 : exe.caseAt 32 33 = true := by kernel_rfl
set_option maxRecDepth 100000 in
theorem exe.c32x50 : exe.caseAt 32 50 = true := by kernel_rfl
set_option maxRecDepth 100000 in
theorem exe.c32x55 : exe.caseAt 32 55 = true := by kernel_rfl
set_option maxRecDepth 100000 in
theorem exe.c32x76 : exe.caseAt 32 76 = true := by kernel_rfl
set_option maxRecDepth 100000 in
theorem exe.c32x77 : exe.caseAt 32 77 = true := by kernel_rfl
set_option maxRecDepth 100000 in
theorem exe.c32x94 : exe.caseAt 32 94 = true := by kernel_rfl
set_option maxRecDepth 100000 in
theorem exe.c32x97 : exe.caseAt 32 97 = true := by kernel_rfl
set_option maxRecDepth 100000 in
theorem exe.c32x110 : exe.caseAt 32 110 = true := by kernel_rfl
set_option maxRecDepth 100000 in
theorem exe.c33x1 : exe.caseAt 33 1 = true := by kernel_rfl
set_option maxRecDepth 100000 in
theorem exe.c33x14 : exe.caseAt 33 14 = true := by kernel_rfl
set_option maxRecDepth 100000 in
theorem exe.c33x23 : exe.caseAt 33 23 = true := by kernel_rfl
set_option maxRecDepth 100000 in
theorem exe.c33x26 : exe.caseAt 33 26 = true := by kernel_rfl
set_option maxRecDepth 100000 in
theorem exe.c33x58 : exe.caseAt 33 58 = true := by kernel_rfl
set_option maxRecDepth 100000 in
theorem exe.c33x61 : exe.caseAt 33 61 = true := by kernel_rfl
set_option maxRecDepth 100000 in
theorem exe.c33x63 : exe.caseAt 33 63 = true := by kernel_rfl
set_option maxRecDepth 100000 in
theorem exe.c33x66 : exe.caseAt 33 66 = true := by kernel_rfl
set_option maxRecDepth 100000 in
theorem exe.c33x88 : exe.caseAt 33 88 = true := by kernel_rfl
set_option maxRecDepth 100000 in
theorem exe.c33x94 : exe.caseAt 33 94 = true := by kernel_rfl
set_option maxRecDepth 100000 in
theorem exe.c33x98 : exe.caseAt 33 98 = true := by kernel_rfl
set_option maxRecDepth 100000 in
theorem exe.c33x106 : exe.caseAt 33 106 = true := by kernel_rfl
set_option maxRecDepth 100000 in
theorem exe.c34x0 : exe.caseAt 34 0 = true := by kernel_rfl
set_option maxRecDepth 100000 in
theorem exe.c34x13 : exe.caseAt 34 13 = true := by kernel_rfl
set_option maxRecDepth 100000 in
theorem exe.c35x0 : exe.caseAt 35 0 = true := by kernel_rfl
end Go.Proofs.YthbdmlcbdibiiaaGreatDoor
