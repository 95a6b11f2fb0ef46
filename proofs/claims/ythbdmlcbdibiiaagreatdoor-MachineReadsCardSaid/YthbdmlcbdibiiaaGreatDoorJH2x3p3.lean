/- For the seat: texts joined: ExeP6, ExeP7. -/
import Derived.Test.YthbdmlcbdibiiaaGreatDoorJL2x0
/- Exec of both packages: some of its cases, by the kernel. -/
namespace Go.Proofs.YthbdmlcbdibiiaaGreatDoor
set_option maxRecDepth 100000 in
theorem exe.c4x1 : exe.caseAt 4 1 = true := by kernel_rfl
set_option maxRecDepth 100000 in
theorem exe.c11x0 : exe.caseAt 11 0 = true := by kernel_rfl
set_option maxRecDepth 100000 in
theorem exe.c13x0 : exe.caseAt 13 0 = true := by kernel_rfl
set_option maxRecDepth 100000 in
theorem exe.c19x1 : exe.caseAt 19 1 = true := by kernel_rfl
set_option maxRecDepth 100000 in
theorem exe.c22x0 : exe.caseAt 22 0 = true := by kernel_rfl
set_option maxRecDepth 100000 in
theorem exe.c31x1 : exe.caseAt 31 1 = true := by kernel_rfl
set_option maxRecDepth 100000 in
theorem exe.c31x2 : exe.caseAt 31 2 = true := by kernel_rfl
set_option maxRecDepth 100000 in
theorem exe.c31x4 : exe.caseAt 31 4 = true := by kernel_rfl
set_option maxRecDepth 100000 in
theorem exe.c32x1 : exe.caseAt 32 1 = true := by kernel_rfl
set_option maxRecDepth 100000 in
theorem exe.c32x16 : exe.caseAt 32 16 = true := by kernel_rfl
set_option maxRecDepth 100000 in
theorem exe.c32x32 : exe.caseAt 32 32 = true := by kernel_rfl
set_option maxRecDepth 100000 in
theorem exe.c32x56 : exe.caseAt 32 56 = true := by kernel_rfl
set_option maxRecDepth 100000 in
theorem exe.c32x82 : exe.caseAt 32 82 = true := by kernel_rfl
set_option maxRecDepth 100000 in
theorem exe.c32x87 : exe.caseAt 32 87 = true := by kernel_rfl
set_option maxRecDepth 100000 in
theorem exe.c32x88 : exe.caseAt 32 88 = true := by kernel_rfl
set_option maxRecDepth 100000 in
theorem exe.c32x91 : exe.caseAt 32 91 = true := by kernel_rfl
set_option maxRecDepth 100000 in
theorem exe.c32x95 : exe.caseAt 32 95 = true := by kernel_rfl
set_option maxRecDepth 100000 in
theorem exe.c33x4 : exe.caseAt 33 4 = true := by kernel_rfl
set_option maxRecDepth 100000 in
theorem exe.c33x19 : exe.caseAt 33 19 = true := by kernel_rfl
set_option maxRecDepth 100000 in
theorem exe.c33x45 : exe.caseAt 33 45 = true := by kernel_rfl
set_option maxRecDepth 100000 in
theorem exe.c33x57 : exe.caseAt 33 57 = true := by kernel_rfl
set_option maxRecDepth 100000 in
theorem exe.c33x69 : exe.caseAt 33 69 = true := by kernel_rfl
set_option maxRecDepth 100000 in
theorem exe.c33x73 : exe.caseAt 33 73 = true := by kernel_rfl
set_option maxRecDepth 100000 in
theorem exe.c33x82 : exe.caseAt 33 82 = true := by kernel_rfl
set_option maxRecDepth 100000 in
theorem exe.c33x84 : exe.caseAt 33 84 = true := by kernel_rfl
set_option maxRecDepth 100000 in
theorem exe.c33x112 : exe.caseAt 33 112 = true := by kernel_rfl
set_option maxRecDepth 100000 in
theorem exe.c34x7 : exe.caseAt 34 7 = true := by kernel_rfl
set_option maxRecDepth 100000 in
theorem exe.c34x12 : exe.caseAt 34 12 = true := by kernel_rfl
set_option maxRecDepth 100000 in
theorem exe.c34x26 : exe.caseAt 34 26 = true := by kernel_rfl
end Go.Proofs.YthbdmlcbdibiiaaGreatDoor
/- Exec of both packages: some of its cases, by the kernel. -/
namespace Go.Proofs.YthbdmlcbdibiiaaGreatDoor
set_option maxRecDepth 100000 in
theorem exe.c4x0 : exe.caseAt 4 0 = true := by kernel_rfl
set_option maxRecDepth 100000 in
theorem exe.c6x0 : exe.caseAt 6 0 = true := by kernel_rfl
set_option maxRecDepth 100000 in
theorem exe.c10x0 : exe.caseAt 10 0 = true := by kernel_rfl
set_option maxRecDepth 100000 in
theorem exe.c16x1 : exe.caseAt 16 1 = true := by kernel_rfl
set_option maxRecDepth 100000 in
theorem exe.c21x0 : exe.caseAt 21 0 = true := by kernel_rfl
set_option maxRecDepth 100000 in
theorem exe.c30x0 : exe.caseAt 30 0 = true := by kernel_rfl
set_option maxRecDepth 100000 in
theorem exe.c31x9 : exe.caseAt 31 9 = true := by kernel_rfl
set_option maxRecDepth 100000 in
theorem exe.c32x30 : exe.caseAt 32 30 = true := by kernel_rfl
set_option maxRecDepth 100000 in
theorem exe.c32x41 : exe.caseAt 32 41 = true := by kernel_rfl
set_option maxRecDepth 100000 in
theorem exe.c32x57 : exe.caseAt 32 57 = true := by kernel_rfl
set_option maxRecDepth 100000 in
theorem exe.c32x71 : exe.caseAt 32 71 = true := by kernel_rfl
set_option maxRecDepth 100000 in
theorem exe.c32x86 : exe.caseAt 32 86 = true := by kernel_rfl
set_option maxRecDepth 100000 in
theorem exe.c32x89 : exe.caseAt 32 89 = true := by kernel_rfl
set_option maxRecDepth 100000 in
theorem exe.c32x99 : exe.caseAt 32 99 = true := by kernel_rfl
set_option maxRecDepth 100000 in
theorem exe.c33x2 : exe.caseAt 33 2 = true := by kernel_rfl
set_option maxRecDepth 100000 in
theorem exe.c33x8 : exe.caseAt 33 8 = true := by kernel_rfl
set_option maxRecDepth 100000 in
theorem exe.c33x21 : exe.caseAt 33 21 = true := by kernel_rfl
set_option maxRecDepth 100000 in
theorem exe.c33x36 : exe.caseAt 33 36 = true := by kernel_rfl
set_option maxRecDepth 100000 in
theorem exe.c33x37 : exe.caseAt 33 37 = true := by kernel_rfl
set_option maxRecDepth 100000 in
theorem exe.c33x40 : exe.caseAt 33 40 = true := by kernel_rfl
set_option maxRecDepth 100000 in
theorem exe.c33x51 : exe.caseAt 33 51 = true := by kernel_rfl
set_option maxRecDepth 100000 in
theorem exe.c33x68 : exe.caseAt 33 68 = true := by kernel_rfl
set_option maxRecDepth 100000 in
theorem exe.c33x76 : exe.caseAt 33 76 = true := by kernel_rfl
set_option maxRecDepth 100000 in
theorem exe.c33x78 : exe.caseAt 33 78 = true := by kernel_rfl
set_option maxRecDepth 100000 in
theorem exe.c33x81 : exe.caseAt 33 81 = true := by kernel_rfl
set_option maxRecDepth 100000 in
theorem exe.c33x111 : exe.caseAt 33 111 = true := by kernel_rfl
set_option maxRecDepth 100000 in
theorem exe.c33x113 : exe.caseAt 33 113 = true := by kernel_rfl
set_option maxRecDepth 100000 in
theorem exe.c34x1 : exe.caseAt 34 1 = true := by kernel_rfl
set_option maxRecDepth 100000 in
theorem exe.c34x23 : exe.caseAt 34 23 = true := by kernel_rfl
end Go.Proofs.YthbdmlcbdibiiaaGreatDoor
