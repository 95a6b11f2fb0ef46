/- For the seat: texts joined: TrdP3. -/
import Derived.Test.YtnpfihlaocpcfaaGreatDoorJL1b
/- TrdP3: the reference's decoder of two halfwords, walked at some cases of the input. -/
namespace Go.Proofs.YtnpfihlaocpcfaaGreatDoor.trd
open Go.Sx
set_option maxRecDepth 100000
theorem w0x3 : ((List.range' 3 1).all fun j => tal.atRP j) = true := by kernel_rfl
set_option maxRecDepth 100000 in
theorem w0x12 : ((List.range' 12 1).all fun j => tal.atRP j) = true := by kernel_rfl
set_option maxRecDepth 100000 in
theorem w0x21 : ((List.range' 21 1).all fun j => tal.atRP j) = true := by kernel_rfl
set_option maxRecDepth 100000 in
theorem w0x30 : ((List.range' 30 1).all fun j => tal.atRP j) = true := by kernel_rfl
set_option maxRecDepth 100000 in
theorem w0x39 : ((List.range' 39 1).all fun j => tal.atRP j) = true := by kernel_rfl
set_option maxRecDepth 100000 in
theorem w0x48 : ((List.range' 48 1).all fun j => tal.atRP j) = true := by kernel_rfl
set_option maxRecDepth 100000 in
theorem w0x57 : ((List.range' 57 1).all fun j => tal.atRP j) = true := by kernel_rfl
set_option maxRecDepth 100000 in
theorem w0x66 : ((List.range' 66 1).all fun j => tal.atRP j) = true := by kernel_rfl
set_option maxRecDepth 100000 in
theorem w0x75 : ((List.range' 75 1).all fun j => tal.atRP j) = true := by kernel_rfl
set_option maxRecDepth 100000 in
theorem w0x84 : ((List.range' 84 1).all fun j => tal.atRP j) = true := by kernel_rfl
set_option maxRecDepth 100000 in
theorem w0x93 : ((List.range' 93 1).all fun j => tal.atRP j) = true := by kernel_rfl
set_option maxRecDepth 100000 in
theorem w0x102 : ((List.range' 102 1).all fun j => tal.atRP j) = true := by kernel_rfl
set_option maxRecDepth 100000 in
theorem w0x111 : ((List.range' 111 1).all fun j => tal.atRP j) = true := by kernel_rfl
set_option maxRecDepth 100000 in
theorem w0x120 : ((List.range' 120 1).all fun j => tal.atRP j) = true := by kernel_rfl
set_option maxRecDepth 100000 in
theorem w0x129 : ((List.range' 129 1).all fun j => tal.atRP j) = true := by kernel_rfl
set_option maxRecDepth 100000 in
theorem w0x138 : ((List.range' 138 1).all fun j => tal.atRP j) = true := by kernel_rfl
set_option maxRecDepth 100000 in
theorem w0x147 : ((List.range' 147 1).all fun j => tal.atRP j) = true := by kernel_rfl
set_option maxRecDepth 100000 in
theorem w0x156 : ((List.range' 156 1).all fun j => tal.atRP j) = true := by kernel_rfl
set_option maxRecDepth 100000 in
theorem w0x165 : ((List.range' 165 1).all fun j => tal.atRP j) = true := by kernel_rfl
set_option maxRecDepth 100000 in
theorem w0x174 : ((List.range' 174 1).all fun j => tal.atRP j) = true := by kernel_rfl
set_option maxRecDepth 100000 in
theorem w0x183 : ((List.range' 183 1).all fun j => tal.atRP j) = true := by kernel_rfl
set_option maxRecDepth 100000 in
theorem w0x192 : ((List.range' 192 1).all fun j => tal.atRP j) = true := by kernel_rfl
set_option maxRecDepth 100000 in
theorem w0x201 : ((List.range' 201 1).all fun j => tal.atRP j) = true := by kernel_rfl
set_option maxRecDepth 100000 in
theorem w0x210 : ((List.range' 210 1).all fun j => tal.atRP j) = true := by kernel_rfl
set_option maxRecDepth 100000 in
theorem w0x219 : ((List.range' 219 1).all fun j => tal.atRP j) = true := by kernel_rfl
set_option maxRecDepth 100000 in
theorem w0x228 : ((List.range' 228 1).all fun j => tal.atRP j) = true := by kernel_rfl
set_option maxRecDepth 100000 in
theorem w0x237 : ((List.range' 237 1).all fun j => tal.atRP j) = true := by kernel_rfl
set_option maxRecDepth 100000 in
theorem w0x246 : ((List.range' 246 1).all fun j => tal.atRP j) = true := by kernel_rfl
set_option maxRecDepth 100000 in
theorem w0x255 : ((List.range' 255 1).all fun j => tal.atRP j) = true := by kernel_rfl
set_option maxRecDepth 100000 in
theorem w0x264 : ((List.range' 264 1).all fun j => tal.atRP j) = true := by kernel_rfl
set_option maxRecDepth 100000 in
theorem w0x273 : ((List.range' 273 1).all fun j => tal.atRP j) = true := by kernel_rfl
set_option maxRecDepth 100000 in
theorem w0x282 : ((List.range' 282 1).all fun j => tal.atRP j) = true := by kernel_rfl
set_option maxRecDepth 100000 in
theorem w0x291 : ((List.range' 291 1).all fun j => tal.atRP j) = true := by kernel_rfl
set_option maxRecDepth 100000 in
theorem w0x300 : ((List.range' 300 1).all fun j => tal.atRP j) = true := by kernel_rfl
set_option maxRecDepth 100000 in
theorem w0x309 : ((List.range' 309 1).all fun j => tal.atRP j) = true := by kernel_rfl
set_option maxRecDepth 100000 in
theorem w0x318 : ((List.range' 318 1).all fun j => tal.atRP j) = true := by kernel_rfl
set_option maxRecDepth 100000 in
theorem w0x327 : ((List.range' 327 1).all fun j => tal.atRP j) = true := by kernel_rfl
set_option maxRecDepth 100000 in
theorem w0x336 : ((List.range' 336 1).all fun j => tal.atRP j) = true := by kernel_rfl
set_option maxRecDepth 100000 in
theorem w0x345 : ((List.range' 345 1).all fun j => tal.atRP j) = true := by kernel_rfl
set_option maxRecDepth 100000 in
theorem w0x354 : ((List.range' 354 1).all fun j => tal.atRP j) = true := by kernel_rfl
set_option maxRecDepth 100000 in
theorem w0x363 : ((List.range' 363 1).all fun j => tal.atRP j) = true := by kernel_rfl
set_option maxRecDepth 100000 in
theorem w0x372 : ((List.range' 372 1).all fun j => tal.atRP j) = true := by kernel_rfl
set_option maxRecDepth 100000 in
theorem w0x381 : ((List.range' 381 1).all fun j => tal.atRP j) = true := by kernel_rfl
set_option maxRecDepth 100000 in
theorem w0x390 : ((List.range' 390 1).all fun j => tal.atRP j) = true := by kernel_rfl
set_option maxRecDepth 100000 in
theorem w0x399 : ((List.range' 399 1).all fun j => tal.atRP j) = true := by kernel_rfl
set_option maxRecDepth 100000 in
theorem w0x408 : ((List.range' 408 1).all fun j => tal.atRP j) = true := by kernel_rfl
set_option maxRecDepth 100000 in
theorem w0x417 : ((List.range' 417 1).all fun j => tal.atRP j) = true := by kernel_rfl
set_option maxRecDepth 100000 in
theorem w0x426 : ((List.range' 426 1).all fun j => tal.atRP j) = true := by kernel_rfl
set_option maxRecDepth 100000 in
theorem w0x435 : ((List.range' 435 1).all fun j => tal.atRP j) = true := by kernel_rfl
set_option maxRecDepth 100000 in
theorem w0x444 : ((List.range' 444 1).all fun j => tal.atRP j) = true := by kernel_rfl
set_option maxRecDepth 100000 in
theorem w0x453 : ((List.range' 453 1).all fun j => tal.atRP j) = true := by kernel_rfl
set_option maxRecDepth 100000 in
theorem w0x462 : ((List.range' 462 1).all fun j => tal.atRP j) = true := by kernel_rfl
set_option maxRecDepth 100000 in
theorem w0x471 : ((List.range' 471 1).all fun j => tal.atRP j) = true := by kernel_rfl
set_option maxRecDepth 100000 in
theorem w0x480 : ((List.range' 480 1).all fun j => tal.atRP j) = true := by kernel_rfl
set_option maxRecDepth 100000 in
theorem w0x489 : ((List.range' 489 1).all fun j => tal.atRP j) = true := by kernel_rfl
set_option maxRecDepth 100000 in
theorem w0x498 : ((List.range' 498 1).all fun j => tal.atRP j) = true := by kernel_rfl
set_option maxRecDepth 100000 in
theorem w0x507 : ((List.range' 507 1).all fun j => tal.atRP j) = true := by kernel_rfl
set_option maxRecDepth 100000 in
theorem w0x516 : ((List.range' 516 1).all fun j => tal.atRP j) = true := by kernel_rfl
set_option maxRecDepth 100000 in
theorem w0x525 : ((List.range' 525 1).all fun j => tal.atRP j) = true := by kernel_rfl
set_option maxRecDepth 100000 in
theorem w0x534 : ((List.range' 534 1).all fun j => tal.atRP j) = true := by kernel_rfl
set_option maxRecDepth 100000 in
theorem w0x543 : ((List.range' 543 1).all fun j => tal.atRP j) = true := by kernel_rfl
set_option maxRecDepth 100000 in
theorem w0x552 : ((List.range' 552 1).all fun j => tal.atRP j) = true := by kernel_rfl
set_option maxRecDepth 100000 in
theorem w0x561 : ((List.range' 561 1).all fun j => tal.atRP j) = true := by kernel_rfl
set_option maxRecDepth 100000 in
theorem w0x570 : ((List.range' 570 1).all fun j => tal.atRP j) = true := by kernel_rfl
set_option maxRecDepth 100000 in
theorem w0x579 : ((List.range' 579 1).all fun j => tal.atRP j) = true := by kernel_rfl
set_option maxRecDepth 100000 in
theorem w0x588 : ((List.range' 588 1).all fun j => tal.atRP j) = true := by kernel_rfl
set_option maxRecDepth 100000 in
theorem w0x597 : ((List.range' 597 1).all fun j => tal.atRP j) = true := by kernel_rfl
set_option maxRecDepth 100000 in
theorem w0x606 : ((List.range' 606 1).all fun j => tal.atRP j) = true := by kernel_rfl
set_option maxRecDepth 100000 in
theorem w0x615 : ((List.range' 615 1).all fun j => tal.atRP j) = true := by kernel_rfl
set_option maxRecDepth 100000 in
theorem w0x624 : ((List.range' 624 1).all fun j => tal.atRP j) = true := by kernel_rfl
set_option maxRecDepth 100000 in
theorem w0x633 : ((List.range' 633 1).all fun j => tal.atRP j) = true := by kernel_rfl
set_option maxRecDepth 100000 in
theorem w0x642 : ((List.range' 642 1).all fun j => tal.atRP j) = true := by kernel_rfl
set_option maxRecDepth 100000 in
theorem w0x651 : ((List.range' 651 1).all fun j => tal.atRP j) = true := by kernel_rfl
set_option maxRecDepth 100000 in
theorem w0x660 : ((List.range' 660 1).all fun j => tal.atRP j) = true := by kernel_rfl
set_option maxRecDepth 100000 in
theorem w0x669 : ((List.range' 669 1).all fun j => tal.atRP j) = true := by kernel_rfl
set_option maxRecDepth 100000 in
theorem w0x678 : ((List.range' 678 1).all fun j => tal.atRP j) = true := by kernel_rfl
set_option maxRecDepth 100000 in
theorem w0x687 : ((List.range' 687 1).all fun j => tal.atRP j) = true := by kernel_rfl
set_option maxRecDepth 100000 in
theorem w0x696 : ((List.range' 696 1).all fun j => tal.atRP j) = true := by kernel_rfl
set_option maxRecDepth 100000 in
theorem w0x705 : ((List.range' 705 1).all fun j => tal.atRP j) = true := by kernel_rfl
set_option maxRecDepth 100000 in
theorem w0x714 : ((List.range' 714 1).all fun j => tal.atRP j) = true := by kernel_rfl
set_option maxRecDepth 100000 in
theorem w0x723 : ((List.range' 723 1).all fun j => tal.atRP j) = true := by kernel_rfl
set_option maxRecDepth 100000 in
theorem w0x732 : ((List.range' 732 1).all fun j => tal.atRP j) = true := by kernel_rfl
end Go.Proofs.YtnpfihlaocpcfaaGreatDoor.trd
