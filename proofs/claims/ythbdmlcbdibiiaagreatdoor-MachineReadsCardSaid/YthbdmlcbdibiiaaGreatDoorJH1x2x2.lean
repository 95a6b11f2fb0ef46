/- For the seat: texts joined: RexP4, RexP5. -/
import Derived.Test.YthbdmlcbdibiiaaGreatDoorJL1x0
/- cartoucheref02.Expand at numbers of twelve bits. -/
namespace Go.Proofs.YthbdmlcbdibiiaaGreatDoor.rex
open Go.Sx
set_option maxRecDepth 100000
theorem x3328 : ((List.range' 3328 32).all expAt) = true := by kernel_rfl
set_option maxRecDepth 100000 in
theorem x3360 : ((List.range' 3360 32).all expAt) = true := by kernel_rfl
set_option maxRecDepth 100000 in
theorem x3392 : ((List.range' 3392 32).all expAt) = true := by kernel_rfl
set_option maxRecDepth 100000 in
theorem x3424 : ((List.range' 3424 32).all expAt) = true := by kernel_rfl
set_option maxRecDepth 100000 in
theorem x3456 : ((List.range' 3456 32).all expAt) = true := by kernel_rfl
set_option maxRecDepth 100000 in
theorem x3488 : ((List.range' 3488 32).all expAt) = true := by kernel_rfl
end Go.Proofs.YthbdmlcbdibiiaaGreatDoor.rex
/- cartoucheref02.Expand at numbers of twelve bits. -/
namespace Go.Proofs.YthbdmlcbdibiiaaGreatDoor.rex
open Go.Sx
set_option maxRecDepth 100000
theorem x3520 : ((List.range' 3520 32).all expAt) = true := by kernel_rfl
set_option maxRecDepth 100000 in
theorem x3552 : ((List.range' 3552 32).all expAt) = true := by kernel_rfl
set_option maxRecDepth 100000 in
theorem x3584 : ((List.range' 3584 32).all expAt) = true := by kernel_rfl
set_option maxRecDepth 100000 in
theorem x3616 : ((List.range' 3616 32).all expAt) = true := by kernel_rfl
set_option maxRecDepth 100000 in
theorem x3648 : ((List.range' 3648 32).all expAt) = true := by kernel_rfl
set_option maxRecDepth 100000 in
theorem x3680 : ((List.range' 3680 32).all expAt) = true := by kernel_rfl
end Go.Proofs.YthbdmlcbdibiiaaGreatDoor.rex
