/- For the seat: texts joined: ExeP0, ExeP1. -/
import Derived.Test.YthbdmlcbdibiiaaGreatDoorJL2x0
/- Exec of both packages: some of its cases, by the kernel. -/
namespace Go.Proofs.YthbdmlcbdibiiaaGreatDoor
set_option maxRecDepth 100000 in
theorem exe.bad_ok : exe.bad = true := by kernel_rfl
set_option maxRecDepth 100000 in
theorem exe.size_ok : exe.size = true := by kernel_rfl
set_option maxRecDepth 100000 in
theorem exe.pass_ok : exe.pass = true := by kernel_rfl
set_option maxRecDepth 100000 in
theorem exe.c2x1 : exe.caseAt 2 1 = true := by kernel_rfl
set_option maxRecDepth 100000 in
theorem exe.c2x2 : exe.caseAt 2 2 = true := by kernel_rfl
set_option maxRecDepth 100000 in
theorem exe.c7x1 : exe.caseAt 7 1 = true := by kernel_rfl
set_option maxRecDepth 100000 in
theorem exe.c10x2 : exe.caseAt 10 2 = true := by kernel_rfl
set_option maxRecDepth 100000 in
theorem exe.c26x0 : exe.caseAt 26 0 = true := by kernel_rfl
set_option maxRecDepth 100000 in
theorem exe.c31x13 : exe.caseAt 31 13 = true := by kernel_rfl
set_option maxRecDepth 100000 in
theorem exe.c32x5 : exe.caseAt 32 5 = true := by kernel_rfl
set_option maxRecDepth 100000 in
theorem exe.c32x6 : exe.caseAt 32 6 = true := by kernel_rfl
set_option maxRecDepth 100000 in
theorem exe.c32x17 : exe.caseAt 32 17 = true := by kernel_rfl
set_option maxRecDepth 100000 in
theorem exe.c32x19 : exe.caseAt 32 19 = true := by kernel_rfl
set_option maxRecDepth 100000 in
theorem exe.c32x39 : exe.caseAt 32 39 = true := by kernel_rfl
set_option maxRecDepth 100000 in
theorem exe.c32x46 : exe.caseAt 32 46 = true := by kernel_rfl
set_option maxRecDepth 100000 in
theorem exe.c32x47 : exe.caseAt 32 47 = true := by kernel_rfl
set_option maxRecDepth 100000 in
theorem exe.c32x58 : exe.caseAt 32 58 = true := by kernel_rfl
set_option maxRecDepth 100000 in
theorem exe.c32x61 : exe.caseAt 32 61 = true := by kernel_rfl
set_option maxRecDepth 100000 in
theorem exe.c32x74 : exe.caseAt 32 74 = true := by kernel_rfl
set_option maxRecDepth 100000 in
theorem exe.c32x81 : exe.caseAt 32 81 = true := by kernel_rfl
set_option maxRecDepth 100000 in
theorem exe.c32x116 : exe.caseAt 32 116 = true := by kernel_rfl
set_option maxRecDepth 100000 in
theorem exe.c33x20 : exe.caseAt 33 20 = true := by kernel_rfl
set_option maxRecDepth 100000 in
theorem exe.c33x24 : exe.caseAt 33 24 = true := by kernel_rfl
set_option maxRecDepth 100000 in
theorem exe.c33x46 : exe.caseAt 33 46 = true := by kernel_rfl
set_option maxRecDepth 100000 in
theorem exe.c33x64 : exe.caseAt 33 64 = true := by kernel_rfl
set_option maxRecDepth 100000 in
theorem exe.c33x99 : exe.caseAt 33 99 = true := by kernel_rfl
set_option maxRecDepth 100000 in
theorem exe.c33x102 : exe.caseAt 33 102 = true := by kernel_rfl
set_option maxRecDepth 100000 in
theorem exe.c33x117 : exe.caseAt 33 117 = true := by kernel_rfl
set_option maxRecDepth 100000 in
theorem exe.c34x10 : exe.caseAt 34 10 = true := by kernel_rfl
set_option maxRecDepth 100000 in
theorem exe.c34x17 : exe.caseAt 34 17 = true := by kernel_rfl
set_option maxRecDepth 100000 in
theorem exe.c34x24 : exe.caseAt 34 24 = true := by kernel_rfl
set_option maxRecDepth 100000 in
theorem exe.c40x0 : exe.caseAt 40 0 = true := by kernel_rfl
end Go.Proofs.YthbdmlcbdibiiaaGreatDoor
/- Exec of both packages: some of its cases, by the kernel. -/
namespace Go.Proofs.YthbdmlcbdibiiaaGreatDoor
set_option maxRecDepth 100000 in
theorem exe.c2x0 : exe.caseAt 2 0 = true := by kernel_rfl
set_option maxRecDepth 100000 in
theorem exe.c3x1 : exe.caseAt 3 1 = true := by kernel_rfl
set_option maxRecDepth 100000 in
theorem exe.c3x2 : exe.caseAt 3 2 = true := by kernel_rfl
set_option maxRecDepth 100000 in
theorem exe.c12x1 : exe.caseAt 12 1 = true := by kernel_rfl
set_option maxRecDepth 100000 in
theorem exe.c15x0 : exe.caseAt 15 0 = true := by kernel_rfl
set_option maxRecDepth 100000 in
theorem exe.c31x5 : exe.caseAt 31 5 = true := by kernel_rfl
set_option maxRecDepth 100000 in
theorem exe.c32x24 : exe.caseAt 32 24 = true := by kernel_rfl
set_option maxRecDepth 100000 in
theorem exe.c32x29 : exe.caseAt 32 29 = true := by kernel_rfl
set_option maxRecDepth 100000 in
theorem exe.c32x40 : exe.caseAt 32 40 = true := by kernel_rfl
set_option maxRecDepth 100000 in
theorem exe.c32x42 : exe.caseAt 32 42 = true := by kernel_rfl
set_option maxRecDepth 100000 in
theorem exe.c32x44 : exe.caseAt 32 44 = true := by kernel_rfl
set_option maxRecDepth 100000 in
theorem exe.c32x48 : exe.caseAt 32 48 = true := by kernel_rfl
set_option maxRecDepth 100000 in
theorem exe.c32x62 : exe.caseAt 32 62 = true := by kernel_rfl
set_option maxRecDepth 100000 in
theorem exe.c32x83 : exe.caseAt 32 83 = true := by kernel_rfl
set_option maxRecDepth 100000 in
theorem exe.c32x107 : exe.caseAt 32 107 = true := by kernel_rfl
set_option maxRecDepth 100000 in
theorem exe.c32x115 : exe.caseAt 32 115 = true := by kernel_rfl
set_option maxRecDepth 100000 in
theorem exe.c32x117 : exe.caseAt 32 117 = true := by kernel_rfl
set_option maxRecDepth 100000 in
theorem exe.c33x7 : exe.caseAt 33 7 = true := by kernel_rfl
set_option maxRecDepth 100000 in
theorem exe.c33x29 : exe.caseAt 33 29 = true := by kernel_rfl
set_option maxRecDepth 100000 in
theorem exe.c33x31 : exe.caseAt 33 31 = true := by kernel_rfl
set_option maxRecDepth 100000 in
theorem exe.c33x42 : exe.caseAt 33 42 = true := by kernel_rfl
set_option maxRecDepth 100000 in
theorem exe.c33x54 : exe.caseAt 33 54 = true := by kernel_rfl
set_option maxRecDepth 100000 in
theorem exe.c33x71 : exe.caseAt 33 71 = true := by kernel_rfl
set_option maxRecDepth 100000 in
theorem exe.c33x105 : exe.caseAt 33 105 = true := by kernel_rfl
set_option maxRecDepth 100000 in
theorem exe.c33x114 : exe.caseAt 33 114 = true := by kernel_rfl
set_option maxRecDepth 100000 in
theorem exe.c34x4 : exe.caseAt 34 4 = true := by kernel_rfl
set_option maxRecDepth 100000 in
theorem exe.c34x8 : exe.caseAt 34 8 = true := by kernel_rfl
set_option maxRecDepth 100000 in
theorem exe.c37x0 : exe.caseAt 37 0 = true := by kernel_rfl
set_option maxRecDepth 100000 in
theorem exe.c39x0 : exe.caseAt 39 0 = true := by kernel_rfl
end Go.Proofs.YthbdmlcbdibiiaaGreatDoor
