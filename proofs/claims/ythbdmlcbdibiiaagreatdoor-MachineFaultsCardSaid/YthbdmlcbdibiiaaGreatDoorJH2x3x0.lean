/- For the seat: texts joined: ExeP0. -/
import Derived.Test.YthbdmlcbdibiiaaGreatDoorJL2x0
/- Exec of both packages: some of its cases, by the kernel. -/
namespace Go.Proofs.YthbdmlcbdibiiaaGreatDoor
set_option maxRecDepth 100000 in
theorem exe.bad_ok : exe.bad = true := by kernel_rfl
set_option maxRecDepth 100000 in
theorem exe.size_ok : exe.size = true := by kernel_rfl
set_option maxRecDepth 100000 in
theorem exe.pass_ok : exe.pass = true := by kernel_rfl
set_option maxRecDepth 100000 in
theorem exe.c2x1 : exe.caseAt 2 1 = true := by kernel_rfl
set_option maxRecDepth 100000 in
theorem exe.c2x2 : exe.caseAt 2 2 = true := by kernel_rfl
set_option maxRecDepth 100000 in
theorem exe.c7x1 : exe.caseAt 7 1 = true := by kernel_rfl
set_option maxRecDepth 100000 in
theorem exe.c10x2 : exe.caseAt 10 2 = true := by kernel_rfl
set_option maxRecDepth 100000 in
theorem exe.c26x0 : exe.caseAt 26 0 = true := by kernel_rfl
set_option maxRecDepth 100000 in
theorem exe.c31x13 : exe.caseAt 31 13 = true := by kernel_rfl
set_option maxRecDepth 100000 in
theorem exe.c32x5 : exe.caseAt 32 5 = true := by kernel_rfl
set_option maxRecDepth 100000 in
theorem exe.c32x6 : exe.caseAt 32 6 = true := by kernel_rfl
set_option maxRecDepth 100000 in
theorem exe.c32x17 : exe.caseAt 32 17 = true := by kernel_rfl
set_option maxRecDepth 100000 in
theorem exe.c32x19 : exe.caseAt 32 19 = true := by kernel_rfl
set_option maxRecDepth 100000 in
theorem exe.c32x39 : exe.caseAt 32 39 = true := by kernel_rfl
set_option maxRecDepth 100000 in
theorem exe.c32x46 : exe.caseAt 32 46 = true := by kernel_rfl
set_option maxRecDepth 100000 in
theorem exe.c32x47 : exe.caseAt 32 47 = true := by kernel_rfl
set_option maxRecDepth 100000 in
theorem exe.c32x58 : exe.caseAt 32 58 = true := by kernel_rfl
set_option maxRecDepth 100000 in
theorem exe.c32x61 : exe.caseAt 32 61 = true := by kernel_rfl
set_option maxRecDepth 100000 in
theorem exe.c32x74 : exe.caseAt 32 74 = true := by kernel_rfl
set_option maxRecDepth 100000 in
theorem exe.c32x81 : exe.caseAt 32 81 = true := by kernel_rfl
set_option maxRecDepth 100000 in
theorem exe.c32x116 : exe.caseAt 32 116 = true := by kernel_rfl
set_option maxRecDepth 100000 in
theorem exe.c33x20 : exe.caseAt 33 20 = true := by kernel_rfl
set_option maxRecDepth 100000 in
theorem exe.c33x24 : exe.caseAt 33 24 = true := by kernel_rfl
set_option maxRecDepth 100000 in
theorem exe.c33x46 : exe.caseAt 33 46 = true := by kernel_rfl
set_option maxRecDepth 100000 in
theorem exe.c33x64 : exe.caseAt 33 64 = true := by kernel_rfl
set_option maxRecDepth 100000 in
theorem exe.c33x99 : exe.caseAt 33 99 = true := by kernel_rfl
set_option maxRecDepth 100000 in
theorem exe.c33x102 : exe.caseAt 33 102 = true := by kernel_rfl
set_option maxRecDepth 100000 in
theorem exe.c33x117 : exe.caseAt 33 117 = true := by kernel_rfl
set_option maxRecDepth 100000 in
theorem exe.c34x10 : exe.caseAt 34 10 = true := by kernel_rfl
set_option maxRecDepth 100000 in
theorem exe.c34x17 : exe.caseAt 34 17 = true := by kernel_rfl
set_option maxRecDepth 100000 in
theorem exe.c34x24 : exe.caseAt 34 24 = true := by kernel_rfl
set_option maxRecDepth 100000 in
theorem exe.c40x0 : exe.caseAt 40 0 = true := by kernel_rfl
end Go.Proofs.YthbdmlcbdibiiaaGreatDoor
