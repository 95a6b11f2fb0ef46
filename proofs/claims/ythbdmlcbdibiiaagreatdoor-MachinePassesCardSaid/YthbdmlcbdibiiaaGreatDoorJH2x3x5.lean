/- For the seat: texts joined: ExeP5. -/
import Derived.Test.YthbdmlcbdibiiaaGreatDoorJL2x0
/- Exec of both packages: some of its cases, by the kernel. -/
namespace Go.Proofs.YthbdmlcbdibiiaaGreatDoor
set_option maxRecDepth 100000 in
theorem exe.c7x0 : exe.caseAt 7 0 = true := by kernel_rfl
set_option maxRecDepth 100000 in
theorem exe.c11x2 : exe.caseAt 11 2 = true := by kernel_rfl
set_option maxRecDepth 100000 in
theorem exe.c13x1 : exe.caseAt 13 1 = true := by kernel_rfl
set_option maxRecDepth 100000 in
theorem exe.c14x0 : exe.caseAt 14 0 = true := by kernel_rfl
set_option maxRecDepth 100000 in
theorem exe.c17x0 : exe.caseAt 17 0 = true := by kernel_rfl
set_option maxRecDepth 100000 in
theorem exe.c31x6 : exe.caseAt 31 6 = true := by kernel_rfl
set_option maxRecDepth 100000 in
theorem exe.c32x11 : exe.caseAt 32 11 = true := by kernel_rfl
set_option maxRecDepth 100000 in
theorem exe.c32x26 : exe.caseAt 32 26 = true := by kernel_rfl
set_option maxRecDepth 100000 in
theorem exe.c32x60 : exe.caseAt 32 60 = true := by kernel_rfl
set_option maxRecDepth 100000 in
theorem exe.c32x79 : exe.caseAt 32 79 = true := by kernel_rfl
set_option maxRecDepth 100000 in
theorem exe.c32x93 : exe.caseAt 32 93 = true := by kernel_rfl
set_option maxRecDepth 100000 in
theorem exe.c32x96 : exe.caseAt 32 96 = true := by kernel_rfl
set_option maxRecDepth 100000 in
theorem exe.c32x98 : exe.caseAt 32 98 = true := by kernel_rfl
set_option maxRecDepth 100000 in
theorem exe.c32x105 : exe.caseAt 32 105 = true := by kernel_rfl
set_option maxRecDepth 100000 in
theorem exe.c32x112 : exe.caseAt 32 112 = true := by kernel_rfl
set_option maxRecDepth 100000 in
theorem exe.c32x114 : exe.caseAt 32 114 = true := by kernel_rfl
set_option maxRecDepth 100000 in
theorem exe.c33x16 : exe.caseAt 33 16 = true := by kernel_rfl
set_option maxRecDepth 100000 in
theorem exe.c33x22 : exe.caseAt 33 22 = true := by kernel_rfl
set_option maxRecDepth 100000 in
theorem exe.c33x35 : exe.caseAt 33 35 = true := by kernel_rfl
set_option maxRecDepth 100000 in
theorem exe.c33x38 : exe.caseAt 33 38 = true := by kernel_rfl
set_option maxRecDepth 100000 in
theorem exe.c33x47 : exe.caseAt 33 47 = true := by kernel_rfl
set_option maxRecDepth 100000 in
theorem exe.c33x53 : exe.caseAt 33 53 = true := by kernel_rfl
set_option maxRecDepth 100000 in
theorem exe.c33x75 : exe.caseAt 33 75 = true := by kernel_rfl
set_option maxRecDepth 100000 in
theorem exe.c33x85 : exe.caseAt 33 85 = true := by kernel_rfl
set_option maxRecDepth 100000 in
theorem exe.c33x86 : exe.caseAt 33 86 = true := by kernel_rfl
set_option maxRecDepth 100000 in
theorem exe.c33x101 : exe.caseAt 33 101 = true := by kernel_rfl
set_option maxRecDepth 100000 in
theorem exe.c34x18 : exe.caseAt 34 18 = true := by kernel_rfl
set_option maxRecDepth 100000 in
theorem exe.c34x21 : exe.caseAt 34 21 = true := by kernel_rfl
set_option maxRecDepth 100000 in
theorem exe.c38x0 : exe.caseAt 38 0 = true := by kernel_rfl
set_option maxRecDepth 100000 in
theorem exe.c45x0 : exe.caseAt 45 0 = true := by kernel_rfl
end Go.Proofs.YthbdmlcbdibiiaaGreatDoor
