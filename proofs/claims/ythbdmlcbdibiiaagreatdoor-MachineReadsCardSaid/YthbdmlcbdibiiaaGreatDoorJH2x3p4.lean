/- For the seat: texts joined: ExeP8, ExeP9. -/
import Derived.Test.YthbdmlcbdibiiaaGreatDoorJL2x0
/- Exec of both packages: some of its cases, by the kernel. -/
namespace Go.Proofs.YthbdmlcbdibiiaaGreatDoor
set_option maxRecDepth 100000 in
theorem exe.c6x1 : exe.caseAt 6 1 = true := by kernel_rfl
set_option maxRecDepth 100000 in
theorem exe.c14x1 : exe.caseAt 14 1 = true := by kernel_rfl
set_option maxRecDepth 100000 in
theorem exe.c19x0 : exe.caseAt 19 0 = true := by kernel_rfl
set_option maxRecDepth 100000 in
theorem exe.c25x1 : exe.caseAt 25 1 = true := by kernel_rfl
set_option maxRecDepth 100000 in
theorem exe.c31x8 : exe.caseAt 31 8 = true := by kernel_rfl
set_option maxRecDepth 100000 in
theorem exe.c32x2 : exe.caseAt 32 2 = true := by kernel_rfl
set_option maxRecDepth 100000 in
theorem exe.c32x4 : exe.caseAt 32 4 = true := by kernel_rfl
set_option maxRecDepth 100000 in
theorem exe.c32x10 : exe.caseAt 32 10 = true := by kernel_rfl
set_option maxRecDepth 100000 in
theorem exe.c32x35 : exe.caseAt 32 35 = true := by kernel_rfl
set_option maxRecDepth 100000 in
theorem exe.c32x36 : exe.caseAt 32 36 = true := by kernel_rfl
set_option maxRecDepth 100000 in
theorem exe.c32x38 : exe.caseAt 32 38 = true := by kernel_rfl
set_option maxRecDepth 100000 in
theorem exe.c32x52 : exe.caseAt 32 52 = true := by kernel_rfl
set_option maxRecDepth 100000 in
theorem exe.c32x53 : exe.caseAt 32 53 = true := by kernel_rfl
set_option maxRecDepth 100000 in
theorem exe.c32x73 : exe.caseAt 32 73 = true := by kernel_rfl
set_option maxRecDepth 100000 in
theorem exe.c32x78 : exe.caseAt 32 78 = true := by kernel_rfl
set_option maxRecDepth 100000 in
theorem exe.c32x100 : exe.caseAt 32 100 = true := by kernel_rfl
set_option maxRecDepth 100000 in
theorem exe.c33x3 : exe.caseAt 33 3 = true := by kernel_rfl
set_option maxRecDepth 100000 in
theorem exe.c33x6 : exe.caseAt 33 6 = true := by kernel_rfl
set_option maxRecDepth 100000 in
theorem exe.c33x9 : exe.caseAt 33 9 = true := by kernel_rfl
set_option maxRecDepth 100000 in
theorem exe.c33x34 : exe.caseAt 33 34 = true := by kernel_rfl
set_option maxRecDepth 100000 in
theorem exe.c33x44 : exe.caseAt 33 44 = true := by kernel_rfl
set_option maxRecDepth 100000 in
theorem exe.c33x59 : exe.caseAt 33 59 = true := by kernel_rfl
set_option maxRecDepth 100000 in
theorem exe.c33x77 : exe.caseAt 33 77 = true := by kernel_rfl
set_option maxRecDepth 100000 in
theorem exe.c33x108 : exe.caseAt 33 108 = true := by kernel_rfl
set_option maxRecDepth 100000 in
theorem exe.c33x110 : exe.caseAt 33 110 = true := by kernel_rfl
set_option maxRecDepth 100000 in
theorem exe.c34x5 : exe.caseAt 34 5 = true := by kernel_rfl
set_option maxRecDepth 100000 in
theorem exe.c34x6 : exe.caseAt 34 6 = true := by kernel_rfl
set_option maxRecDepth 100000 in
theorem exe.c34x16 : exe.caseAt 34 16 = true := by kernel_rfl
set_option maxRecDepth 100000 in
theorem exe.c34x22 : exe.caseAt 34 22 = true := by kernel_rfl
set_option maxRecDepth 100000 in
theorem exe.c43x0 : exe.caseAt 43 0 = true := by kernel_rfl
end Go.Proofs.YthbdmlcbdibiiaaGreatDoor
/- Exec of both packages: some of its cases, by the kernel. -/
namespace Go.Proofs.YthbdmlcbdibiiaaGreatDoor
set_option maxRecDepth 100000 in
theorem exe.c4x2 : exe.caseAt 4 2 = true := by kernel_rfl
set_option maxRecDepth 100000 in
theorem exe.c11x1 : exe.caseAt 11 1 = true := by kernel_rfl
set_option maxRecDepth 100000 in
theorem exe.c16x0 : exe.caseAt 16 0 = true := by kernel_rfl
set_option maxRecDepth 100000 in
theorem exe.c20x0 : exe.caseAt 20 0 = true := by kernel_rfl
set_option maxRecDepth 100000 in
theorem exe.c28x0 : exe.caseAt 28 0 = true := by kernel_rfl
set_option maxRecDepth 100000 in
theorem exe.c31x3 : exe.caseAt 31 3 = true := by kernel_rfl
set_option maxRecDepth 100000 in
theorem exe.c32x0 : exe.caseAt 32 0 = true := by kernel_rfl
set_option maxRecDepth 100000 in
theorem exe.c32x12 : exe.caseAt 32 12 = true := by kernel_rfl
set_option maxRecDepth 100000 in
theorem exe.c32x14 : exe.caseAt 32 14 = true := by kernel_rfl
set_option maxRecDepth 100000 in
theorem exe.c32x23 : exe.caseAt 32 23 = true := by kernel_rfl
set_option maxRecDepth 100000 in
theorem exe.c32x34 : exe.caseAt 32 34 = true := by kernel_rfl
set_option maxRecDepth 100000 in
theorem exe.c32x51 : exe.caseAt 32 51 = true := by kernel_rfl
set_option maxRecDepth 100000 in
theorem exe.c32x64 : exe.caseAt 32 64 = true := by kernel_rfl
set_option maxRecDepth 100000 in
theorem exe.c32x103 : exe.caseAt 32 103 = true := by kernel_rfl
set_option maxRecDepth 100000 in
theorem exe.c33x27 : exe.caseAt 33 27 = true := by kernel_rfl
set_option maxRecDepth 100000 in
theorem exe.c33x28 : exe.caseAt 33 28 = true := by kernel_rfl
set_option maxRecDepth 100000 in
theorem exe.c33x32 : exe.caseAt 33 32 = true := by kernel_rfl
set_option maxRecDepth 100000 in
theorem exe.c33x50 : exe.caseAt 33 50 = true := by kernel_rfl
set_option maxRecDepth 100000 in
theorem exe.c33x67 : exe.caseAt 33 67 = true := by kernel_rfl
set_option maxRecDepth 100000 in
theorem exe.c33x92 : exe.caseAt 33 92 = true := by kernel_rfl
set_option maxRecDepth 100000 in
theorem exe.c33x100 : exe.caseAt 33 100 = true := by kernel_rfl
set_option maxRecDepth 100000 in
theorem exe.c33x104 : exe.caseAt 33 104 = true := by kernel_rfl
set_option maxRecDepth 100000 in
theorem exe.c33x107 : exe.caseAt 33 107 = true := by kernel_rfl
set_option maxRecDepth 100000 in
theorem exe.c33x116 : exe.caseAt 33 116 = true := by kernel_rfl
set_option maxRecDepth 100000 in
theorem exe.c33x118 : exe.caseAt 33 118 = true := by kernel_rfl
set_option maxRecDepth 100000 in
theorem exe.c34x11 : exe.caseAt 34 11 = true := by kernel_rfl
set_option maxRecDepth 100000 in
theorem exe.c34x15 : exe.caseAt 34 15 = true := by kernel_rfl
set_option maxRecDepth 100000 in
theorem exe.c34x27 : exe.caseAt 34 27 = true := by kernel_rfl
set_option maxRecDepth 100000 in
theorem exe.c34x28 : exe.caseAt 34 28 = true := by kernel_rfl
set_option maxRecDepth 100000 in
theorem exe.c36x0 : exe.caseAt 36 0 = true := by kernel_rfl
end Go.Proofs.YthbdmlcbdibiiaaGreatDoor
