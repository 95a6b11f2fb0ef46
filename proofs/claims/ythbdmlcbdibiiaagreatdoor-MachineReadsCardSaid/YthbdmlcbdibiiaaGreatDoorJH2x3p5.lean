/- For the seat: texts joined: ExeP10, ExeP11. -/
import Derived.Test.YthbdmlcbdibiiaaGreatDoorJL2x0
/- Exec of both packages: some of its cases, by the kernel. -/
namespace Go.Proofs.YthbdmlcbdibiiaaGreatDoor
set_option maxRecDepth 100000 in
theorem exe.c5x1 : exe.caseAt 5 1 = true := by kernel_rfl
set_option maxRecDepth 100000 in
theorem exe.c15x1 : exe.caseAt 15 1 = true := by kernel_rfl
set_option maxRecDepth 100000 in
theorem exe.c27x1 : exe.caseAt 27 1 = true := by kernel_rfl
set_option maxRecDepth 100000 in
theorem exe.c29x1 : exe.caseAt 29 1 = true := by kernel_rfl
set_option maxRecDepth 100000 in
theorem exe.c32x13 : exe.caseAt 32 13 = true := by kernel_rfl
set_option maxRecDepth 100000 in
theorem exe.c32x15 : exe.caseAt 32 15 = true := by kernel_rfl
set_option maxRecDepth 100000 in
theorem exe.c32x18 : exe.caseAt 32 18 = true := by kernel_rfl
set_option maxRecDepth 100000 in
theorem exe.c32x33 : exe.caseAt 32 33 = true := by kernel_rfl
set_option maxRecDepth 100000 in
theorem exe.c32x50 : exe.caseAt 32 50 = true := by kernel_rfl
set_option maxRecDepth 100000 in
theorem exe.c32x55 : exe.caseAt 32 55 = true := by kernel_rfl
set_option maxRecDepth 100000 in
theorem exe.c32x76 : exe.caseAt 32 76 = true := by kernel_rfl
set_option maxRecDepth 100000 in
theorem exe.c32x77 : exe.caseAt 32 77 = true := by kernel_rfl
set_option maxRecDepth 100000 in
theorem exe.c32x94 : exe.caseAt 32 94 = true := by kernel_rfl
set_option maxRecDepth 100000 in
theorem exe.c32x97 : exe.caseAt 32 97 = true := by kernel_rfl
set_option maxRecDepth 100000 in
theorem exe.c32x110 : exe.caseAt 32 110 = true := by kernel_rfl
set_option maxRecDepth 100000 in
theorem exe.c33x1 : exe.caseAt 33 1 = true := by kernel_rfl
set_option maxRecDepth 100000 in
theorem exe.c33x14 : exe.caseAt 33 14 = true := by kernel_rfl
set_option maxRecDepth 100000 in
theorem exe.c33x23 : exe.caseAt 33 23 = true := by kernel_rfl
set_option maxRecDepth 100000 in
theorem exe.c33x26 : exe.caseAt 33 26 = true := by kernel_rfl
set_option maxRecDepth 100000 in
theorem exe.c33x58 : exe.caseAt 33 58 = true := by kernel_rfl
set_option maxRecDepth 100000 in
theorem exe.c33x61 : exe.caseAt 33 61 = true := by kernel_rfl
set_option maxRecDepth 100000 in
theorem exe.c33x63 : exe.caseAt 33 63 = true := by kernel_rfl
set_option maxRecDepth 100000 in
theorem exe.c33x66 : exe.caseAt 33 66 = true := by kernel_rfl
set_option maxRecDepth 100000 in
theorem exe.c33x88 : exe.caseAt 33 88 = true := by kernel_rfl
set_option maxRecDepth 100000 in
theorem exe.c33x94 : exe.caseAt 33 94 = true := by kernel_rfl
set_option maxRecDepth 100000 in
theorem exe.c33x98 : exe.caseAt 33 98 = true := by kernel_rfl
set_option maxRecDepth 100000 in
theorem exe.c33x106 : exe.caseAt 33 106 = true := by kernel_rfl
set_option maxRecDepth 100000 in
theorem exe.c34x0 : exe.caseAt 34 0 = true := by kernel_rfl
set_option maxRecDepth 100000 in
theorem exe.c34x13 : exe.caseAt 34 13 = true := by kernel_rfl
set_option maxRecDepth 100000 in
theorem exe.c35x0 : exe.caseAt 35 0 = true := by kernel_rfl
end Go.Proofs.YthbdmlcbdibiiaaGreatDoor
/- Exec of both packages: some of its cases, by the kernel. -/
namespace Go.Proofs.YthbdmlcbdibiiaaGreatDoor
set_option maxRecDepth 100000 in
theorem exe.c1x0 : exe.caseAt 1 0 = true := by kernel_rfl
set_option maxRecDepth 100000 in
theorem exe.c1x1 : exe.caseAt 1 1 = true := by kernel_rfl
set_option maxRecDepth 100000 in
theorem exe.c9x1 : exe.caseAt 9 1 = true := by kernel_rfl
set_option maxRecDepth 100000 in
theorem exe.c23x0 : exe.caseAt 23 0 = true := by kernel_rfl
set_option maxRecDepth 100000 in
theorem exe.c25x0 : exe.caseAt 25 0 = true := by kernel_rfl
set_option maxRecDepth 100000 in
theorem exe.c27x0 : exe.caseAt 27 0 = true := by kernel_rfl
set_option maxRecDepth 100000 in
theorem exe.c31x0 : exe.caseAt 31 0 = true := by kernel_rfl
set_option maxRecDepth 100000 in
theorem exe.c32x3 : exe.caseAt 32 3 = true := by kernel_rfl
set_option maxRecDepth 100000 in
theorem exe.c32x20 : exe.caseAt 32 20 = true := by kernel_rfl
set_option maxRecDepth 100000 in
theorem exe.c32x22 : exe.caseAt 32 22 = true := by kernel_rfl
set_option maxRecDepth 100000 in
theorem exe.c32x28 : exe.caseAt 32 28 = true := by kernel_rfl
set_option maxRecDepth 100000 in
theorem exe.c32x43 : exe.caseAt 32 43 = true := by kernel_rfl
set_option maxRecDepth 100000 in
theorem exe.c32x66 : exe.caseAt 32 66 = true := by kernel_rfl
set_option maxRecDepth 100000 in
theorem exe.c32x85 : exe.caseAt 32 85 = true := by kernel_rfl
set_option maxRecDepth 100000 in
theorem exe.c32x92 : exe.caseAt 32 92 = true := by kernel_rfl
set_option maxRecDepth 100000 in
theorem exe.c32x102 : exe.caseAt 32 102 = true := by kernel_rfl
set_option maxRecDepth 100000 in
theorem exe.c32x109 : exe.caseAt 32 109 = true := by kernel_rfl
set_option maxRecDepth 100000 in
theorem exe.c32x113 : exe.caseAt 32 113 = true := by kernel_rfl
set_option maxRecDepth 100000 in
theorem exe.c32x118 : exe.caseAt 32 118 = true := by kernel_rfl
set_option maxRecDepth 100000 in
theorem exe.c33x5 : exe.caseAt 33 5 = true := by kernel_rfl
set_option maxRecDepth 100000 in
theorem exe.c33x12 : exe.caseAt 33 12 = true := by kernel_rfl
set_option maxRecDepth 100000 in
theorem exe.c33x56 : exe.caseAt 33 56 = true := by kernel_rfl
set_option maxRecDepth 100000 in
theorem exe.c33x60 : exe.caseAt 33 60 = true := by kernel_rfl
set_option maxRecDepth 100000 in
theorem exe.c33x62 : exe.caseAt 33 62 = true := by kernel_rfl
set_option maxRecDepth 100000 in
theorem exe.c33x91 : exe.caseAt 33 91 = true := by kernel_rfl
set_option maxRecDepth 100000 in
theorem exe.c33x93 : exe.caseAt 33 93 = true := by kernel_rfl
set_option maxRecDepth 100000 in
theorem exe.c33x96 : exe.caseAt 33 96 = true := by kernel_rfl
set_option maxRecDepth 100000 in
theorem exe.c33x97 : exe.caseAt 33 97 = true := by kernel_rfl
set_option maxRecDepth 100000 in
theorem exe.c34x9 : exe.caseAt 34 9 = true := by kernel_rfl
set_option maxRecDepth 100000 in
theorem exe.c34x14 : exe.caseAt 34 14 = true := by kernel_rfl
end Go.Proofs.YthbdmlcbdibiiaaGreatDoor
