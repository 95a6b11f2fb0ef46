/- For the seat: texts joined: RexP2. -/
import Derived.Test.YthbdmlcbdibiiaaGreatDoorJL1x0
/- cartoucheref02.Expand at numbers of twelve bits. -/
namespace Go.Proofs.YthbdmlcbdibiiaaGreatDoor.rex
open Go.Sx
set_option maxRecDepth 100000
theorem x2048 : ((List.range' 2048 32).all expAt) = true := by kernel_rfl
set_option maxRecDepth 100000 in
theorem x2080 : ((List.range' 2080 32).all expAt) = true := by kernel_rfl
set_option maxRecDepth 100000 in
theorem x2112 : ((List.range' 2112 32).all expAt) = true := by kernel_rfl
set_option maxRecDepth 100000 in
theorem x2144 : ((List.range' 2144 32).all expAt) = true := by kernel_rfl
set_option maxRecDepth 100000 in
theorem e16 : ((List.range' 2048 128).all expAt) = true := by
  rw [show List.range' 2048 128 = List.range' 2048 32 ++ (List.range' 2080 32 ++ (List.range' 2112 32 ++ List.range' 2144 32)) from rfl]
  simp only [List.all_append, x2048, x2080, x2112, x2144, Bool.and_self]
set_option maxRecDepth 100000 in
theorem x2176 : ((List.range' 2176 32).all expAt) = true := by kernel_rfl
set_option maxRecDepth 100000 in
theorem x2208 : ((List.range' 2208 32).all expAt) = true := by kernel_rfl
set_option maxRecDepth 100000 in
theorem x2240 : ((List.range' 2240 32).all expAt) = true := by kernel_rfl
set_option maxRecDepth 100000 in
theorem x2272 : ((List.range' 2272 32).all expAt) = true := by kernel_rfl
set_option maxRecDepth 100000 in
theorem e17 : ((List.range' 2176 128).all expAt) = true := by
  rw [show List.range' 2176 128 = List.range' 2176 32 ++ (List.range' 2208 32 ++ (List.range' 2240 32 ++ List.range' 2272 32)) from rfl]
  simp only [List.all_append, x2176, x2208, x2240, x2272, Bool.and_self]
set_option maxRecDepth 100000 in
theorem x2304 : ((List.range' 2304 32).all expAt) = true := by kernel_rfl
set_option maxRecDepth 100000 in
theorem x2336 : ((List.range' 2336 32).all expAt) = true := by kernel_rfl
set_option maxRecDepth 100000 in
theorem x2368 : ((List.range' 2368 32).all expAt) = true := by kernel_rfl
set_option maxRecDepth 100000 in
theorem x2400 : ((List.range' 2400 32).all expAt) = true := by kernel_rfl
set_option maxRecDepth 100000 in
theorem e18 : ((List.range' 2304 128).all expAt) = true := by
  rw [show List.range' 2304 128 = List.range' 2304 32 ++ (List.range' 2336 32 ++ (List.range' 2368 32 ++ List.range' 2400 32)) from rfl]
  simp only [List.all_append, x2304, x2336, x2368, x2400, Bool.and_self]
set_option maxRecDepth 100000 in
theorem x2432 : ((List.range' 2432 32).all expAt) = true := by kernel_rfl
set_option maxRecDepth 100000 in
theorem x2464 : ((List.range' 2464 32).all expAt) = true := by kernel_rfl
set_option maxRecDepth 100000 in
theorem x2496 : ((List.range' 2496 32).all expAt) = true := by kernel_rfl
set_option maxRecDepth 100000 in
theorem x2528 : ((List.range' 2528 32).all expAt) = true := by kernel_rfl
set_option maxRecDepth 100000 in
theorem e19 : ((List.range' 2432 128).all expAt) = true := by
  rw [show List.range' 2432 128 = List.range' 2432 32 ++ (List.range' 2464 32 ++ (List.range' 2496 32 ++ List.range' 2528 32)) from rfl]
  simp only [List.all_append, x2432, x2464, x2496, x2528, Bool.and_self]
set_option maxRecDepth 100000 in
theorem x2560 : ((List.range' 2560 32).all expAt) = true := by kernel_rfl
set_option maxRecDepth 100000 in
theorem x2592 : ((List.range' 2592 32).all expAt) = true := by kernel_rfl
set_option maxRecDepth 100000 in
theorem x2624 : ((List.range' 2624 32).all expAt) = true := by kernel_rfl
set_option maxRecDepth 100000 in
theorem x2656 : ((List.range' 2656 32).all expAt) = true := by kernel_rfl
set_option maxRecDepth 100000 in
theorem e20 : ((List.range' 2560 128).all expAt) = true := by
  rw [show List.range' 2560 128 = List.range' 2560 32 ++ (List.range' 2592 32 ++ (List.range' 2624 32 ++ List.range' 2656 32)) from rfl]
  simp only [List.all_append, x2560, x2592, x2624, x2656, Bool.and_self]
set_option maxRecDepth 100000 in
theorem x2688 : ((List.range' 2688 32).all expAt) = true := by kernel_rfl
set_option maxRecDepth 100000 in
theorem x2720 : ((List.range' 2720 32).all expAt) = true := by kernel_rfl
set_option maxRecDepth 100000 in
theorem x2752 : ((List.range' 2752 32).all expAt) = true := by kernel_rfl
set_option maxRecDepth 100000 in
theorem x2784 : ((List.range' 2784 32).all expAt) = true := by kernel_rfl
set_option maxRecDepth 100000 in
theorem e21 : ((List.range' 2688 128).all expAt) = true := by
  rw [show List.range' 2688 128 = List.range' 2688 32 ++ (List.range' 2720 32 ++ (List.range' 2752 32 ++ List.range' 2784 32)) from rfl]
  simp only [List.all_append, x2688, x2720, x2752, x2784, Bool.and_self]
set_option maxRecDepth 100000 in
theorem x2816 : ((List.range' 2816 32).all expAt) = true := by kernel_rfl
set_option maxRecDepth 100000 in
theorem x2848 : ((List.range' 2848 32).all expAt) = true := by kernel_rfl
set_option maxRecDepth 100000 in
theorem x2880 : ((List.range' 2880 32).all expAt) = true := by kernel_rfl
set_option maxRecDepth 100000 in
theorem x2912 : ((List.range' 2912 32).all expAt) = true := by kernel_rfl
set_option maxRecDepth 100000 in
theorem e22 : ((List.range' 2816 128).all expAt) = true := by
  rw [show List.range' 2816 128 = List.range' 2816 32 ++ (List.range' 2848 32 ++ (List.range' 2880 32 ++ List.range' 2912 32)) from rfl]
  simp only [List.all_append, x2816, x2848, x2880, x2912, Bool.and_self]
set_option maxRecDepth 100000 in
theorem x2944 : ((List.range' 2944 32).all expAt) = true := by kernel_rfl
set_option maxRecDepth 100000 in
theorem x2976 : ((List.range' 2976 32).all expAt) = true := by kernel_rfl
set_option maxRecDepth 100000 in
theorem x3008 : ((List.range' 3008 32).all expAt) = true := by kernel_rfl
set_option maxRecDepth 100000 in
theorem x3040 : ((List.range' 3040 32).all expAt) = true := by kernel_rfl
set_option maxRecDepth 100000 in
theorem e23 : ((List.range' 2944 128).all expAt) = true := by
  rw [show List.range' 2944 128 = List.range' 2944 32 ++ (List.range' 2976 32 ++ (List.range' 3008 32 ++ List.range' 3040 32)) from rfl]
  simp only [List.all_append, x2944, x2976, x3008, x3040, Bool.and_self]
end Go.Proofs.YthbdmlcbdibiiaaGreatDoor.rex
