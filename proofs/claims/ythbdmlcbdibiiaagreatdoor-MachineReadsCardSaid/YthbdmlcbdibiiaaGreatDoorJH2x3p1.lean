/- For the seat: texts joined: ExeP2, ExeP3. -/
import Derived.Test.YthbdmlcbdibiiaaGreatDoorJL2x0
/- Exec of both packages: some of its cases, by the kernel. -/
namespace Go.Proofs.YthbdmlcbdibiiaaGreatDoor
set_option maxRecDepth 100000 in
theorem exe.c8x1 : exe.caseAt 8 1 = true := by kernel_rfl
set_option maxRecDepth 100000 in
theorem exe.c9x0 : exe.caseAt 9 0 = true := by kernel_rfl
set_option maxRecDepth 100000 in
theorem exe.c10x1 : exe.caseAt 10 1 = true := by kernel_rfl
set_option maxRecDepth 100000 in
theorem exe.c14x2 : exe.caseAt 14 2 = true := by kernel_rfl
set_option maxRecDepth 100000 in
theorem exe.c18x0 : exe.caseAt 18 0 = true := by kernel_rfl
set_option maxRecDepth 100000 in
theorem exe.c29x0 : exe.caseAt 29 0 = true := by kernel_rfl
set_option maxRecDepth 100000 in
theorem exe.c31x7 : exe.caseAt 31 7 = true := by kernel_rfl
set_option maxRecDepth 100000 in
theorem exe.c31x12 : exe.caseAt 31 12 = true := by kernel_rfl
set_option maxRecDepth 100000 in
theorem exe.c32x25 : exe.caseAt 32 25 = true := by kernel_rfl
set_option maxRecDepth 100000 in
theorem exe.c32x31 : exe.caseAt 32 31 = true := by kernel_rfl
set_option maxRecDepth 100000 in
theorem exe.c32x59 : exe.caseAt 32 59 = true := by kernel_rfl
set_option maxRecDepth 100000 in
theorem exe.c32x67 : exe.caseAt 32 67 = true := by kernel_rfl
set_option maxRecDepth 100000 in
theorem exe.c32x68 : exe.caseAt 32 68 = true := by kernel_rfl
set_option maxRecDepth 100000 in
theorem exe.c32x70 : exe.caseAt 32 70 = true := by kernel_rfl
set_option maxRecDepth 100000 in
theorem exe.c32x75 : exe.caseAt 32 75 = true := by kernel_rfl
set_option maxRecDepth 100000 in
theorem exe.c32x90 : exe.caseAt 32 90 = true := by kernel_rfl
set_option maxRecDepth 100000 in
theorem exe.c32x101 : exe.caseAt 32 101 = true := by kernel_rfl
set_option maxRecDepth 100000 in
theorem exe.c32x106 : exe.caseAt 32 106 = true := by kernel_rfl
set_option maxRecDepth 100000 in
theorem exe.c33x13 : exe.caseAt 33 13 = true := by kernel_rfl
set_option maxRecDepth 100000 in
theorem exe.c33x17 : exe.caseAt 33 17 = true := by kernel_rfl
set_option maxRecDepth 100000 in
theorem exe.c33x25 : exe.caseAt 33 25 = true := by kernel_rfl
set_option maxRecDepth 100000 in
theorem exe.c33x43 : exe.caseAt 33 43 = true := by kernel_rfl
set_option maxRecDepth 100000 in
theorem exe.c33x65 : exe.caseAt 33 65 = true := by kernel_rfl
set_option maxRecDepth 100000 in
theorem exe.c33x70 : exe.caseAt 33 70 = true := by kernel_rfl
set_option maxRecDepth 100000 in
theorem exe.c33x72 : exe.caseAt 33 72 = true := by kernel_rfl
set_option maxRecDepth 100000 in
theorem exe.c33x103 : exe.caseAt 33 103 = true := by kernel_rfl
set_option maxRecDepth 100000 in
theorem exe.c33x109 : exe.caseAt 33 109 = true := by kernel_rfl
set_option maxRecDepth 100000 in
theorem exe.c34x3 : exe.caseAt 34 3 = true := by kernel_rfl
set_option maxRecDepth 100000 in
theorem exe.c41x0 : exe.caseAt 41 0 = true := by kernel_rfl
end Go.Proofs.YthbdmlcbdibiiaaGreatDoor
/- Exec of both packages: some of its cases, by the kernel. -/
namespace Go.Proofs.YthbdmlcbdibiiaaGreatDoor
set_option maxRecDepth 100000 in
theorem exe.c1x2 : exe.caseAt 1 2 = true := by kernel_rfl
set_option maxRecDepth 100000 in
theorem exe.c3x0 : exe.caseAt 3 0 = true := by kernel_rfl
set_option maxRecDepth 100000 in
theorem exe.c15x2 : exe.caseAt 15 2 = true := by kernel_rfl
set_option maxRecDepth 100000 in
theorem exe.c18x1 : exe.caseAt 18 1 = true := by kernel_rfl
set_option maxRecDepth 100000 in
theorem exe.c26x1 : exe.caseAt 26 1 = true := by kernel_rfl
set_option maxRecDepth 100000 in
theorem exe.c30x1 : exe.caseAt 30 1 = true := by kernel_rfl
set_option maxRecDepth 100000 in
theorem exe.c31x11 : exe.caseAt 31 11 = true := by kernel_rfl
set_option maxRecDepth 100000 in
theorem exe.c32x7 : exe.caseAt 32 7 = true := by kernel_rfl
set_option maxRecDepth 100000 in
theorem exe.c32x9 : exe.caseAt 32 9 = true := by kernel_rfl
set_option maxRecDepth 100000 in
theorem exe.c32x37 : exe.caseAt 32 37 = true := by kernel_rfl
set_option maxRecDepth 100000 in
theorem exe.c32x45 : exe.caseAt 32 45 = true := by kernel_rfl
set_option maxRecDepth 100000 in
theorem exe.c32x49 : exe.caseAt 32 49 = true := by kernel_rfl
set_option maxRecDepth 100000 in
theorem exe.c32x63 : exe.caseAt 32 63 = true := by kernel_rfl
set_option maxRecDepth 100000 in
theorem exe.c32x65 : exe.caseAt 32 65 = true := by kernel_rfl
set_option maxRecDepth 100000 in
theorem exe.c32x72 : exe.caseAt 32 72 = true := by kernel_rfl
set_option maxRecDepth 100000 in
theorem exe.c32x80 : exe.caseAt 32 80 = true := by kernel_rfl
set_option maxRecDepth 100000 in
theorem exe.c32x84 : exe.caseAt 32 84 = true := by kernel_rfl
set_option maxRecDepth 100000 in
theorem exe.c32x104 : exe.caseAt 32 104 = true := by kernel_rfl
set_option maxRecDepth 100000 in
theorem exe.c32x111 : exe.caseAt 32 111 = true := by kernel_rfl
set_option maxRecDepth 100000 in
theorem exe.c33x18 : exe.caseAt 33 18 = true := by kernel_rfl
set_option maxRecDepth 100000 in
theorem exe.c33x30 : exe.caseAt 33 30 = true := by kernel_rfl
set_option maxRecDepth 100000 in
theorem exe.c33x33 : exe.caseAt 33 33 = true := by kernel_rfl
set_option maxRecDepth 100000 in
theorem exe.c33x49 : exe.caseAt 33 49 = true := by kernel_rfl
set_option maxRecDepth 100000 in
theorem exe.c33x52 : exe.caseAt 33 52 = true := by kernel_rfl
set_option maxRecDepth 100000 in
theorem exe.c33x74 : exe.caseAt 33 74 = true := by kernel_rfl
set_option maxRecDepth 100000 in
theorem exe.c33x79 : exe.caseAt 33 79 = true := by kernel_rfl
set_option maxRecDepth 100000 in
theorem exe.c33x80 : exe.caseAt 33 80 = true := by kernel_rfl
set_option maxRecDepth 100000 in
theorem exe.c33x89 : exe.caseAt 33 89 = true := by kernel_rfl
set_option maxRecDepth 100000 in
theorem exe.c33x115 : exe.caseAt 33 115 = true := by kernel_rfl
set_option maxRecDepth 100000 in
theorem exe.c42x0 : exe.caseAt 42 0 = true := by kernel_rfl
end Go.Proofs.YthbdmlcbdibiiaaGreatDoor
