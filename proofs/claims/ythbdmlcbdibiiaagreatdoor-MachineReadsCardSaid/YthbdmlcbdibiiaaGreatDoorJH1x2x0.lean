/- For the seat: texts joined: RexP0, RexP1. -/
import Derived.Test.YthbdmlcbdibiiaaGreatDoorJL1x0
/- cartoucheref02.Expand at numbers of twelve bits. -/
namespace Go.Proofs.YthbdmlcbdibiiaaGreatDoor.rex
open Go.Sx
set_option maxRecDepth 100000
theorem e0 : ((List.range' 0 128).all expAt) = true := by kernel_rfl
set_option maxRecDepth 100000 in
theorem e1 : ((List.range' 128 128).all expAt) = true := by kernel_rfl
set_option maxRecDepth 100000 in
theorem e2 : ((List.range' 256 128).all expAt) = true := by kernel_rfl
set_option maxRecDepth 100000 in
theorem e3 : ((List.range' 384 128).all expAt) = true := by kernel_rfl
set_option maxRecDepth 100000 in
theorem e4 : ((List.range' 512 128).all expAt) = true := by kernel_rfl
set_option maxRecDepth 100000 in
theorem e5 : ((List.range' 640 128).all expAt) = true := by kernel_rfl
set_option maxRecDepth 100000 in
theorem e6 : ((List.range' 768 128).all expAt) = true := by kernel_rfl
set_option maxRecDepth 100000 in
theorem e7 : ((List.range' 896 128).all expAt) = true := by kernel_rfl
end Go.Proofs.YthbdmlcbdibiiaaGreatDoor.rex
/- cartoucheref02.Expand at numbers of twelve bits. -/
namespace Go.Proofs.YthbdmlcbdibiiaaGreatDoor.rex
open Go.Sx
set_option maxRecDepth 100000
theorem e8 : ((List.range' 1024 128).all expAt) = true := by kernel_rfl
set_option maxRecDepth 100000 in
theorem e9 : ((List.range' 1152 128).all expAt) = true := by kernel_rfl
set_option maxRecDepth 100000 in
theorem e10 : ((List.range' 1280 128).all expAt) = true := by kernel_rfl
set_option maxRecDepth 100000 in
theorem e11 : ((List.range' 1408 128).all expAt) = true := by kernel_rfl
set_option maxRecDepth 100000 in
theorem e12 : ((List.range' 1536 128).all expAt) = true := by kernel_rfl
set_option maxRecDepth 100000 in
theorem e13 : ((List.range' 1664 128).all expAt) = true := by kernel_rfl
set_option maxRecDepth 100000 in
theorem e14 : ((List.range' 1792 128).all expAt) = true := by kernel_rfl
set_option maxRecDepth 100000 in
theorem e15 : ((List.range' 1920 128).all expAt) = true := by kernel_rfl
end Go.Proofs.YthbdmlcbdibiiaaGreatDoor.rex
