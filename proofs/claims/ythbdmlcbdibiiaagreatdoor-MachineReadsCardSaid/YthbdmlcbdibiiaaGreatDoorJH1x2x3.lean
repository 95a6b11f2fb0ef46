/- For the seat: texts joined: RexP6, RexP7. -/
import Derived.Test.YthbdmlcbdibiiaaGreatDoorJL1x0
/- cartoucheref02.Expand at numbers of twelve bits. -/
namespace Go.Proofs.YthbdmlcbdibiiaaGreatDoor.rex
open Go.Sx
set_option maxRecDepth 100000
theorem x3712 : ((List.range' 3712 32).all expAt) = true := by kernel_rfl
set_option maxRecDepth 100000 in
theorem x3744 : ((List.range' 3744 32).all expAt) = true := by kernel_rfl
set_option maxRecDepth 100000 in
theorem x3776 : ((List.range' 3776 32).all expAt) = true := by kernel_rfl
set_option maxRecDepth 100000 in
theorem x3808 : ((List.range' 3808 32).all expAt) = true := by kernel_rfl
set_option maxRecDepth 100000 in
theorem x3840 : ((List.range' 3840 32).all expAt) = true := by kernel_rfl
set_option maxRecDepth 100000 in
theorem x3872 : ((List.range' 3872 32).all expAt) = true := by kernel_rfl
end Go.Proofs.YthbdmlcbdibiiaaGreatDoor.rex
/- cartoucheref02.Expand at numbers of twelve bits. -/
namespace Go.Proofs.YthbdmlcbdibiiaaGreatDoor.rex
open Go.Sx
set_option maxRecDepth 100000
theorem x3904 : ((List.range' 3904 32).all expAt) = true := by kernel_rfl
set_option maxRecDepth 100000 in
theorem x3936 : ((List.range' 3936 32).all expAt) = true := by kernel_rfl
set_option maxRecDepth 100000 in
theorem x3968 : ((List.range' 3968 32).all expAt) = true := by kernel_rfl
set_option maxRecDepth 100000 in
theorem x4000 : ((List.range' 4000 32).all expAt) = true := by kernel_rfl
set_option maxRecDepth 100000 in
theorem x4032 : ((List.range' 4032 32).all expAt) = true := by kernel_rfl
set_option maxRecDepth 100000 in
theorem x4064 : ((List.range' 4064 32).all expAt) = true := by kernel_rfl
end Go.Proofs.YthbdmlcbdibiiaaGreatDoor.rex
