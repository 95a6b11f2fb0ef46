/- For the seat: texts joined: ExeP4, ExeP5. -/
import Derived.Test.YthbdmlcbdibiiaaGreatDoorJL2x0
/- Exec of both packages: some of its cases, by the kernel. -/
namespace Go.Proofs.YthbdmlcbdibiiaaGreatDoor
set_option maxRecDepth 100000 in
theorem exe.c5x0 : exe.caseAt 5 0 = true := by kernel_rfl
set_option maxRecDepth 100000 in
theorem exe.c8x0 : exe.caseAt 8 0 = true := by kernel_rfl
set_option maxRecDepth 100000 in
theorem exe.c12x0 : exe.caseAt 12 0 = true := by kernel_rfl
set_option maxRecDepth 100000 in
theorem exe.c17x1 : exe.caseAt 17 1 = true := by kernel_rfl
set_option maxRecDepth 100000 in
theorem exe.c24x0 : exe.caseAt 24 0 = true := by kernel_rfl
set_option maxRecDepth 100000 in
theorem exe.c28x1 : exe.caseAt 28 1 = true := by kernel_rfl
set_option maxRecDepth 100000 in
theorem exe.c31x10 : exe.caseAt 31 10 = true := by kernel_rfl
set_option maxRecDepth 100000 in
theorem exe.c32x8 : exe.caseAt 32 8 = true := by kernel_rfl
set_option maxRecDepth 100000 in
theorem exe.c32x21 : exe.caseAt 32 21 = true := by kernel_rfl
set_option maxRecDepth 100000 in
theorem exe.c32x27 : exe.caseAt 32 27 = true := by kernel_rfl
set_option maxRecDepth 100000 in
theorem exe.c32x54 : exe.caseAt 32 54 = true := by kernel_rfl
set_option maxRecDepth 100000 in
theorem exe.c32x69 : exe.caseAt 32 69 = true := by kernel_rfl
set_option maxRecDepth 100000 in
theorem exe.c32x108 : exe.caseAt 32 108 = true := by kernel_rfl
set_option maxRecDepth 100000 in
theorem exe.c33x0 : exe.caseAt 33 0 = true := by kernel_rfl
set_option maxRecDepth 100000 in
theorem exe.c33x10 : exe.caseAt 33 10 = true := by kernel_rfl
set_option maxRecDepth 100000 in
theorem exe.c33x11 : exe.caseAt 33 11 = true := by kernel_rfl
set_option maxRecDepth 100000 in
theorem exe.c33x15 : exe.caseAt 33 15 = true := by kernel_rfl
set_option maxRecDepth 100000 in
theorem exe.c33x39 : exe.caseAt 33 39 = true := by kernel_rfl
set_option maxRecDepth 100000 in
theorem exe.c33x41 : exe.caseAt 33 41 = true := by kernel_rfl
set_option maxRecDepth 100000 in
theorem exe.c33x48 : exe.caseAt 33 48 = true := by kernel_rfl
set_option maxRecDepth 100000 in
theorem exe.c33x55 : exe.caseAt 33 55 = true := by kernel_rfl
set_option maxRecDepth 100000 in
theorem exe.c33x83 : exe.caseAt 33 83 = true := by kernel_rfl
set_option maxRecDepth 100000 in
theorem exe.c33x87 : exe.caseAt 33 87 = true := by kernel_rfl
set_option maxRecDepth 100000 in
theorem exe.c33x90 : exe.caseAt 33 90 = true := by kernel_rfl
set_option maxRecDepth 100000 in
theorem exe.c33x95 : exe.caseAt 33 95 = true := by kernel_rfl
set_option maxRecDepth 100000 in
theorem exe.c34x2 : exe.caseAt 34 2 = true := by kernel_rfl
set_option maxRecDepth 100000 in
theorem exe.c34x19 : exe.caseAt 34 19 = true := by kernel_rfl
set_option maxRecDepth 100000 in
theorem exe.c34x20 : exe.caseAt 34 20 = true := by kernel_rfl
set_option maxRecDepth 100000 in
theorem exe.c34x25 : exe.caseAt 34 25 = true := by kernel_rfl
set_option maxRecDepth 100000 in
theorem exe.c44x0 : exe.caseAt 44 0 = true := by kernel_rfl
end Go.Proofs.YthbdmlcbdibiiaaGreatDoor
/- Exec of both packages: some of its cases, by the kernel. -/
namespace Go.Proofs.YthbdmlcbdibiiaaGreatDoor
set_option maxRecDepth 100000 in
theorem exe.c7x0 : exe.caseAt 7 0 = true := by kernel_rfl
set_option maxRecDepth 100000 in
theorem exe.c11x2 : exe.caseAt 11 2 = true := by kernel_rfl
set_option maxRecDepth 100000 in
theorem exe.c13x1 : exe.caseAt 13 1 = true := by kernel_rfl
set_option maxRecDepth 100000 in
theorem exe.c14x0 : exe.caseAt 14 0 = true := by kernel_rfl
set_option maxRecDepth 100000 in
theorem exe.c17x0 : exe.caseAt 17 0 = true := by kernel_rfl
set_option maxRecDepth 100000 in
theorem exe.c31x6 : exe.caseAt 31 6 = true := by kernel_rfl
set_option maxRecDepth 100000 in
theorem exe.c32x11 : exe.caseAt 32 11 = true := by kernel_rfl
set_option maxRecDepth 100000 in
theorem exe.c32x26 : exe.caseAt 32 26 = true := by kernel_rfl
set_option maxRecDepth 100000 in
theorem exe.c32x60 : exe.caseAt 32 60 = true := by kernel_rfl
set_option maxRecDepth 100000 in
theorem exe.c32x79 : exe.caseAt 32 79 = true := by kernel_rfl
set_option maxRecDepth 100000 in
theorem exe.c32x93 : exe.caseAt 32 93 = true := by kernel_rfl
set_option maxRecDepth 100000 in
theorem exe.c32x96 : exe.caseAt 32 96 = true := by kernel_rfl
set_option maxRecDepth 100000 in
theorem exe.c32x98 : exe.caseAt 32 98 = true := by kernel_rfl
set_option maxRecDepth 100000 in
theorem exe.c32x105 : exe.caseAt 32 105 = true := by kernel_rfl
set_option maxRecDepth 100000 in
theorem exe.c32x112 : exe.caseAt 32 112 = true := by kernel_rfl
set_option maxRecDepth 100000 in
theorem exe.c32x114 : exe.caseAt 32 114 = true := by kernel_rfl
set_option maxRecDepth 100000 in
theorem exe.c33x16 : exe.caseAt 33 16 = true := by kernel_rfl
set_option maxRecDepth 100000 in
theorem exe.c33x22 : exe.caseAt 33 22 = true := by kernel_rfl
set_option maxRecDepth 100000 in
theorem exe.c33x35 : exe.caseAt 33 35 = true := by kernel_rfl
set_option maxRecDepth 100000 in
theorem exe.c33x38 : exe.caseAt 33 38 = true := by kernel_rfl
set_option maxRecDepth 100000 in
theorem exe.c33x47 : exe.caseAt 33 47 = true := by kernel_rfl
set_option maxRecDepth 100000 in
theorem exe.c33x53 : exe.caseAt 33 53 = true := by kernel_rfl
set_option maxRecDepth 100000 in
theorem exe.c33x75 : exe.caseAt 33 75 = true := by kernel_rfl
set_option maxRecDepth 100000 in
theorem exe.c33x85 : exe.caseAt 33 85 = true := by kernel_rfl
set_option maxRecDepth 100000 in
theorem exe.c33x86 : exe.caseAt 33 86 = true := by kernel_rfl
set_option maxRecDepth 100000 in
theorem exe.c33x101 : exe.caseAt 33 101 = true := by kernel_rfl
set_option maxRecDepth 100000 in
theorem exe.c34x18 : exe.caseAt 34 18 = true := by kernel_rfl
set_option maxRecDepth 100000 in
theorem exe.c34x21 : exe.caseAt 34 21 = true := by kernel_rfl
set_option maxRecDepth 100000 in
theorem exe.c38x0 : exe.caseAt 38 0 = true := by kernel_rfl
set_option maxRecDepth 100000 in
theorem exe.c45x0 : exe.caseAt 45 0 = true := by kernel_rfl
end Go.Proofs.YthbdmlcbdibiiaaGreatDoor
