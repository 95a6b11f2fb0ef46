/- For the seat: texts joined: ExeP1. -/
import Derived.Test.YthbdmlcbdibiiaaGreatDoorJL2x0
/- Exec of both packages: some of its cases, by the kernel. -/
namespace Go.Proofs.YthbdmlcbdibiiaaGreatDoor
set_option maxRecDepth 100000 in
theorem exe.c2x0 : exe.caseAt 2 0 = true := by kernel_rfl
set_option maxRecDepth 100000 in
theorem exe.c3x1 : exe.caseAt 3 1 = true := by kernel_rfl
set_option maxRecDepth 100000 in
theorem exe.c3x2 : exe.caseAt 3 2 = true := by kernel_rfl
set_option maxRecDepth 100000 in
theorem exe.c12x1 : exe.caseAt 12 1 = true := by kernel_rfl
set_option maxRecDepth 100000 in
theorem exe.c15x0 : exe.caseAt 15 0 = true := by kernel_rfl
set_option maxRecDepth 100000 in
theorem exe.c31x5 : exe.caseAt 31 5 = true := by kernel_rfl
set_option maxRecDepth 100000 in
theorem exe.c32x24 : exe.caseAt 32 24 = true := by kernel_rfl
set_option maxRecDepth 100000 in
theorem exe.c32x29 : exe.caseAt 32 29 = true := by kernel_rfl
set_option maxRecDepth 100000 in
theorem exe.c32x40 : exe.caseAt 32 40 = true := by kernel_rfl
set_option maxRecDepth 100000 in
theorem exe.c32x42 : exe.caseAt 32 42 = true := by kernel_rfl
set_option maxRecDepth 100000 in
theorem exe.c32x44 : exe.caseAt 32 44 = true := by kernel_rfl
set_option maxRecDepth 100000 in
theorem exe.c32x48 : exe.caseAt 32 48 = true := by kernel_rfl
set_option maxRecDepth 100000 in
theorem exe.c32x62 : exe.caseAt 32 62 = true := by kernel_rfl
set_option maxRecDepth 100000 in
theorem exe.c32x83 : exe.caseAt 32 83 = true := by kernel_rfl
set_option maxRecDepth 100000 in
theorem exe.c32x107 : exe.caseAt 32 107 = true := by kernel_rfl
set_option maxRecDepth 100000 in
theorem exe.c32x115 : exe.caseAt 32 115 = true := by kernel_rfl
set_option maxRecDepth 100000 in
theorem exe.c32x117 : exe.caseAt 32 117 = true := by kernel_rfl
set_option maxRecDepth 100000 in
theorem exe.c33x7 : exe.caseAt 33 7 = true := by kernel_rfl
set_option maxRecDepth 100000 in
theorem exe.c33x29 : exe.caseAt 33 29 = true := by kernel_rfl
set_option maxRecDepth 100000 in
theorem exe.c33x31 : exe.caseAt 33 31 = true := by kernel_rfl
set_option maxRecDepth 100000 in
theorem exe.c33x42 : exe.caseAt 33 42 = true := by kernel_rfl
set_option maxRecDepth 100000 in
theorem exe.c33x54 : exe.caseAt 33 54 = true := by kernel_rfl
set_option maxRecDepth 100000 in
theorem exe.c33x71 : exe.caseAt 33 71 = true := by kernel_rfl
set_option maxRecDepth 100000 in
theorem exe.c33x105 : exe.caseAt 33 105 = true := by kernel_rfl
set_option maxRecDepth 100000 in
theorem exe.c33x114 : exe.caseAt 33 114 = true := by kernel_rfl
set_option maxRecDepth 100000 in
theorem exe.c34x4 : exe.caseAt 34 4 = true := by kernel_rfl
set_option maxRecDepth 100000 in
theorem exe.c34x8 : exe.caseAt 34 8 = true := by kernel_rfl
set_option maxRecDepth 100000 in
theorem exe.c37x0 : exe.caseAt 37 0 = true := by kernel_rfl
set_option maxRecDepth 100000 in
theorem exe.c39x0 : exe.caseAt 39 0 = true := by kernel_rfl
end Go.Proofs.YthbdmlcbdibiiaaGreatDoor
