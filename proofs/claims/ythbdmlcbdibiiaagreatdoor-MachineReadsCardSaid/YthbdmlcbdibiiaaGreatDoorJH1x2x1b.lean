/- For the seat: texts joined: RexP3. -/
import Derived.Test.YthbdmlcbdibiiaaGreatDoorJL1x0
/- cartoucheref02.Expand at numbers of twelve bits. -/
namespace Go.Proofs.YthbdmlcbdibiiaaGreatDoor.rex
open Go.Sx
set_option maxRecDepth 100000
theorem x3072 : ((List.range' 3072 32).all expAt) = true := by kernel_rfl
set_option maxRecDepth 100000 in
theorem x3104 : ((List.range' 3104 32).all expAt) = true := by kernel_rfl
set_option maxRecDepth 100000 in
theorem x3136 : ((List.range' 3136 32).all expAt) = true := by kernel_rfl
set_option maxRecDepth 100000 in
theorem x3168 : ((List.range' 3168 32).all expAt) = true := by kernel_rfl
set_option maxRecDepth 100000 in
theorem x3200 : ((List.range' 3200 32).all expAt) = true := by kernel_rfl
set_option maxRecDepth 100000 in
theorem x3232 : ((List.range' 3232 32).all expAt) = true := by kernel_rfl
set_option maxRecDepth 100000 in
theorem x3264 : ((List.range' 3264 32).all expAt) = true := by kernel_rfl
set_option maxRecDepth 100000 in
theorem x3296 : ((List.range' 3296 32).all expAt) = true := by kernel_rfl
set_option maxRecDepth 100000 in
theorem e24 : ((List.range' 3072 128).all expAt) = true := by
  rw [show List.range' 3072 128 = List.range' 3072 32 ++ (List.range' 3104 32 ++ (List.range' 3136 32 ++ List.range' 3168 32)) from rfl]
  simp only [List.all_append, x3072, x3104, x3136, x3168, Bool.and_self]
set_option maxRecDepth 100000 in
theorem e25 : ((List.range' 3200 128).all expAt) = true := by
  rw [show List.range' 3200 128 = List.range' 3200 32 ++ (List.range' 3232 32 ++ (List.range' 3264 32 ++ List.range' 3296 32)) from rfl]
  simp only [List.all_append, x3200, x3232, x3264, x3296, Bool.and_self]
end Go.Proofs.YthbdmlcbdibiiaaGreatDoor.rex
