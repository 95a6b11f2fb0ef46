/- For the seat: texts joined: TrdP4. -/
import Derived.Test.YtnpfihlaocpcfaaGreatDoorJL1b
/- TrdP4: the reference's decoder of two halfwords, walked at some cases of the input. -/
namespace Go.Proofs.YtnpfihlaocpcfaaGreatDoor.trd
open Go.Sx
set_option maxRecDepth 100000
theorem w0x4 : ((List.range' 4 1).all fun j => tal.atRP j) = true := by kernel_rfl
set_option maxRecDepth 100000 in
theorem w0x13 : ((List.range' 13 1).all fun j => tal.atRP j) = true := by kernel_rfl
set_option maxRecDepth 100000 in
theorem w0x22 : ((List.range' 22 1).all fun j => tal.atRP j) = true := by kernel_rfl
set_option maxRecDepth 100000 in
theorem w0x31 : ((List.range' 31 1).all fun j => tal.atRP j) = true := by kernel_rfl
set_option maxRecDepth 100000 in
theorem w0x40 : ((List.range' 40 1).all fun j => tal.atRP j) = true := by kernel_rfl
set_option maxRecDepth 100000 in
theorem w0x49 : ((List.range' 49 1).all fun j => tal.atRP j) = true := by kernel_rfl
set_option maxRecDepth 100000 in
theorem w0x58 : ((List.range' 58 1).all fun j => tal.atRP j) = true := by kernel_rfl
set_option maxRecDepth 100000 in
theorem w0x67 : ((List.range' 67 1).all fun j => tal.atRP j) = true := by kernel_rfl
set_option maxRecDepth 100000 in
theorem w0x76 : ((List.range' 76 1).all fun j => tal.atRP j) = true := by kernel_rfl
set_option maxRecDepth 100000 in
theorem w0x85 : ((List.range' 85 1).all fun j => tal.atRP j) = true := by kernel_rfl
set_option maxRecDepth 100000 in
theorem w0x94 : ((List.range' 94 1).all fun j => tal.atRP j) = true := by kernel_rfl
set_option maxRecDepth 100000 in
theorem w0x103 : ((List.range' 103 1).all fun j => tal.atRP j) = true := by kernel_rfl
set_option maxRecDepth 100000 in
theorem w0x112 : ((List.range' 112 1).all fun j => tal.atRP j) = true := by kernel_rfl
set_option maxRecDepth 100000 in
theorem w0x121 : ((List.range' 121 1).all fun j => tal.atRP j) = true := by kernel_rfl
set_option maxRecDepth 100000 in
theorem w0x130 : ((List.range' 130 1).all fun j => tal.atRP j) = true := by kernel_rfl
set_option maxRecDepth 100000 in
theorem w0x139 : ((List.range' 139 1).all fun j => tal.atRP j) = true := by kernel_rfl
set_option maxRecDepth 100000 in
theorem w0x148 : ((List.range' 148 1).all fun j => tal.atRP j) = true := by kernel_rfl
set_option maxRecDepth 100000 in
theorem w0x157 : ((List.range' 157 1).all fun j => tal.atRP j) = true := by kernel_rfl
set_option maxRecDepth 100000 in
theorem w0x166 : ((List.range' 166 1).all fun j => tal.atRP j) = true := by kernel_rfl
set_option maxRecDepth 100000 in
theorem w0x175 : ((List.range' 175 1).all fun j => tal.atRP j) = true := by kernel_rfl
set_option maxRecDepth 100000 in
theorem w0x184 : ((List.range' 184 1).all fun j => tal.atRP j) = true := by kernel_rfl
set_option maxRecDepth 100000 in
theorem w0x193 : ((List.range' 193 1).all fun j => tal.atRP j) = true := by kernel_rfl
set_option maxRecDepth 100000 in
theorem w0x202 : ((List.range' 202 1).all fun j => tal.atRP j) = true := by kernel_rfl
set_option maxRecDepth 100000 in
theorem w0x211 : ((List.range' 211 1).all fun j => tal.atRP j) = true := by kernel_rfl
set_option maxRecDepth 100000 in
theorem w0x220 : ((List.range' 220 1).all fun j => tal.atRP j) = true := by kernel_rfl
set_option maxRecDepth 100000 in
theorem w0x229 : ((List.range' 229 1).all fun j => tal.atRP j) = true := by kernel_rfl
set_option maxRecDepth 100000 in
theorem w0x238 : ((List.range' 238 1).all fun j => tal.atRP j) = true := by kernel_rfl
set_option maxRecDepth 100000 in
theorem w0x247 : ((List.range' 247 1).all fun j => tal.atRP j) = true := by kernel_rfl
set_option maxRecDepth 100000 in
theorem w0x256 : ((List.range' 256 1).all fun j => tal.atRP j) = true := by kernel_rfl
set_option maxRecDepth 100000 in
theorem w0x265 : ((List.range' 265 1).all fun j => tal.atRP j) = true := by kernel_rfl
set_option maxRecDepth 100000 in
theorem w0x274 : ((List.range' 274 1).all fun j => tal.atRP j) = true := by kernel_rfl
set_option maxRecDepth 100000 in
theorem w0x283 : ((List.range' 283 1).all fun j => tal.atRP j) = true := by kernel_rfl
set_option maxRecDepth 100000 in
theorem w0x292 : ((List.range' 292 1).all fun j => tal.atRP j) = true := by kernel_rfl
set_option maxRecDepth 100000 in
theorem w0x301 : ((List.range' 301 1).all fun j => tal.atRP j) = true := by kernel_rfl
set_option maxRecDepth 100000 in
theorem w0x310 : ((List.range' 310 1).all fun j => tal.atRP j) = true := by kernel_rfl
set_option maxRecDepth 100000 in
theorem w0x319 : ((List.range' 319 1).all fun j => tal.atRP j) = true := by kernel_rfl
set_option maxRecDepth 100000 in
theorem w0x328 : ((List.range' 328 1).all fun j => tal.atRP j) = true := by kernel_rfl
set_option maxRecDepth 100000 in
theorem w0x337 : ((List.range' 337 1).all fun j => tal.atRP j) = true := by kernel_rfl
set_option maxRecDepth 100000 in
theorem w0x346 : ((List.range' 346 1).all fun j => tal.atRP j) = true := by kernel_rfl
set_option maxRecDepth 100000 in
theorem w0x355 : ((List.range' 355 1).all fun j => tal.atRP j) = true := by kernel_rfl
set_option maxRecDepth 100000 in
theorem w0x364 : ((List.range' 364 1).all fun j => tal.atRP j) = true := by kernel_rfl
set_option maxRecDepth 100000 in
theorem w0x373 : ((List.range' 373 1).all fun j => tal.atRP j) = true := by kernel_rfl
set_option maxRecDepth 100000 in
theorem w0x382 : ((List.range' 382 1).all fun j => tal.atRP j) = true := by kernel_rfl
set_option maxRecDepth 100000 in
theorem w0x391 : ((List.range' 391 1).all fun j => tal.atRP j) = true := by kernel_rfl
set_option maxRecDepth 100000 in
theorem w0x400 : ((List.range' 400 1).all fun j => tal.atRP j) = true := by kernel_rfl
set_option maxRecDepth 100000 in
theorem w0x409 : ((List.range' 409 1).all fun j => tal.atRP j) = true := by kernel_rfl
set_option maxRecDepth 100000 in
theorem w0x418 : ((List.range' 418 1).all fun j => tal.atRP j) = true := by kernel_rfl
set_option maxRecDepth 100000 in
theorem w0x427 : ((List.range' 427 1).all fun j => tal.atRP j) = true := by kernel_rfl
set_option maxRecDepth 100000 in
theorem w0x436 : ((List.range' 436 1).all fun j => tal.atRP j) = true := by kernel_rfl
set_option maxRecDepth 100000 in
theorem w0x445 : ((List.range' 445 1).all fun j => tal.atRP j) = true := by kernel_rfl
set_option maxRecDepth 100000 in
theorem w0x454 : ((List.range' 454 1).all fun j => tal.atRP j) = true := by kernel_rfl
set_option maxRecDepth 100000 in
theorem w0x463 : ((List.range' 463 1).all fun j => tal.atRP j) = true := by kernel_rfl
set_option maxRecDepth 100000 in
theorem w0x472 : ((List.range' 472 1).all fun j => tal.atRP j) = true := by kernel_rfl
set_option maxRecDepth 100000 in
theorem w0x481 : ((List.range' 481 1).all fun j => tal.atRP j) = true := by kernel_rfl
set_option maxRecDepth 100000 in
theorem w0x490 : ((List.range' 490 1).all fun j => tal.atRP j) = true := by kernel_rfl
set_option maxRecDepth 100000 in
theorem w0x499 : ((List.range' 499 1).all fun j => tal.atRP j) = true := by kernel_rfl
set_option maxRecDepth 100000 in
theorem w0x508 : ((List.range' 508 1).all fun j => tal.atRP j) = true := by kernel_rfl
set_option maxRecDepth 100000 in
theorem w0x517 : ((List.range' 517 1).all fun j => tal.atRP j) = true := by kernel_rfl
set_option maxRecDepth 100000 in
theorem w0x526 : ((List.range' 526 1).all fun j => tal.atRP j) = true := by kernel_rfl
set_option maxRecDepth 100000 in
theorem w0x535 : ((List.range' 535 1).all fun j => tal.atRP j) = true := by kernel_rfl
set_option maxRecDepth 100000 in
theorem w0x544 : ((List.range' 544 1).all fun j => tal.atRP j) = true := by kernel_rfl
set_option maxRecDepth 100000 in
theorem w0x553 : ((List.range' 553 1).all fun j => tal.atRP j) = true := by kernel_rfl
set_option maxRecDepth 100000 in
theorem w0x562 : ((List.range' 562 1).all fun j => tal.atRP j) = true := by kernel_rfl
set_option maxRecDepth 100000 in
theorem w0x571 : ((List.range' 571 1).all fun j => tal.atRP j) = true := by kernel_rfl
set_option maxRecDepth 100000 in
theorem w0x580 : ((List.range' 580 1).all fun j => tal.atRP j) = true := by kernel_rfl
set_option maxRecDepth 100000 in
theorem w0x589 : ((List.range' 589 1).all fun j => tal.atRP j) = true := by kernel_rfl
set_option maxRecDepth 100000 in
theorem w0x598 : ((List.range' 598 1).all fun j => tal.atRP j) = true := by kernel_rfl
set_option maxRecDepth 100000 in
theorem w0x607 : ((List.range' 607 1).all fun j => tal.atRP j) = true := by kernel_rfl
set_option maxRecDepth 100000 in
theorem w0x616 : ((List.range' 616 1).all fun j => tal.atRP j) = true := by kernel_rfl
set_option maxRecDepth 100000 in
theorem w0x625 : ((List.range' 625 1).all fun j => tal.atRP j) = true := by kernel_rfl
set_option maxRecDepth 100000 in
theorem w0x634 : ((List.range' 634 1).all fun j => tal.atRP j) = true := by kernel_rfl
set_option maxRecDepth 100000 in
theorem w0x643 : ((List.range' 643 1).all fun j => tal.atRP j) = true := by kernel_rfl
set_option maxRecDepth 100000 in
theorem w0x652 : ((List.range' 652 1).all fun j => tal.atRP j) = true := by kernel_rfl
set_option maxRecDepth 100000 in
theorem w0x661 : ((List.range' 661 1).all fun j => tal.atRP j) = true := by kernel_rfl
set_option maxRecDepth 100000 in
theorem w0x670 : ((List.range' 670 1).all fun j => tal.atRP j) = true := by kernel_rfl
set_option maxRecDepth 100000 in
theorem w0x679 : ((List.range' 679 1).all fun j => tal.atRP j) = true := by kernel_rfl
set_option maxRecDepth 100000 in
theorem w0x688 : ((List.range' 688 1).all fun j => tal.atRP j) = true := by kernel_rfl
set_option maxRecDepth 100000 in
theorem w0x697 : ((List.range' 697 1).all fun j => tal.atRP j) = true := by kernel_rfl
set_option maxRecDepth 100000 in
theorem w0x706 : ((List.range' 706 1).all fun j => tal.atRP j) = true := by kernel_rfl
set_option maxRecDepth 100000 in
theorem w0x715 : ((List.range' 715 1).all fun j => tal.atRP j) = true := by kernel_rfl
set_option maxRecDepth 100000 in
theorem w0x724 : ((List.range' 724 1).all fun j => tal.atRP j) = true := by kernel_rfl
end Go.Proofs.YtnpfihlaocpcfaaGreatDoor.trd
