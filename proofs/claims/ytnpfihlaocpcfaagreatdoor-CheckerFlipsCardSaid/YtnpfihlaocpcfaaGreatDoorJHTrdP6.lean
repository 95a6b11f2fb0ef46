/- For the seat: texts joined: TrdP6. -/
import Derived.Test.YtnpfihlaocpcfaaGreatDoorJL1b
/- TrdP6: the reference's decoder of two halfwords, walked at some cases of the input. -/
namespace Go.Proofs.YtnpfihlaocpcfaaGreatDoor.trd
open Go.Sx
set_option maxRecDepth 100000
theorem w0x6 : ((List.range' 6 1).all fun j => tal.atRP j) = true := by kernel_rfl
set_option maxRecDepth 100000 in
theorem w0x15 : ((List.range' 15 1).all fun j => tal.atRP j) = true := by kernel_rfl
set_option maxRecDepth 100000 in
theorem w0x24 : ((List.range' 24 1).all fun j => tal.atRP j) = true := by kernel_rfl
set_option maxRecDepth 100000 in
theorem w0x33 : ((List.range' 33 1).all fun j => tal.atRP j) = true := by kernel_rfl
set_option maxRecDepth 100000 in
theorem w0x42 : ((List.range' 42 1).all fun j => tal.atRP j) = true := by kernel_rfl
set_option maxRecDepth 100000 in
theorem w0x51 : ((List.range' 51 1).all fun j => tal.atRP j) = true := by kernel_rfl
set_option maxRecDepth 100000 in
theorem w0x60 : ((List.range' 60 1).all fun j => tal.atRP j) = true := by kernel_rfl
set_option maxRecDepth 100000 in
theorem w0x69 : ((List.range' 69 1).all fun j => tal.atRP j) = true := by kernel_rfl
set_option maxRecDepth 100000 in
theorem w0x78 : ((List.range' 78 1).all fun j => tal.atRP j) = true := by kernel_rfl
set_option maxRecDepth 100000 in
theorem w0x87 : ((List.range' 87 1).all fun j => tal.atRP j) = true := by kernel_rfl
set_option maxRecDepth 100000 in
theorem w0x96 : ((List.range' 96 1).all fun j => tal.atRP j) = true := by kernel_rfl
set_option maxRecDepth 100000 in
theorem w0x105 : ((List.range' 105 1).all fun j => tal.atRP j) = true := by kernel_rfl
set_option maxRecDepth 100000 in
theorem w0x114 : ((List.range' 114 1).all fun j => tal.atRP j) = true := by kernel_rfl
set_option maxRecDepth 100000 in
theorem w0x123 : ((List.range' 123 1).all fun j => tal.atRP j) = true := by kernel_rfl
set_option maxRecDepth 100000 in
theorem w0x132 : ((List.range' 132 1).all fun j => tal.atRP j) = true := by kernel_rfl
set_option maxRecDepth 100000 in
theorem w0x141 : ((List.range' 141 1).all fun j => tal.atRP j) = true := by kernel_rfl
set_option maxRecDepth 100000 in
theorem w0x150 : ((List.range' 150 1).all fun j => tal.atRP j) = true := by kernel_rfl
set_option maxRecDepth 100000 in
theorem w0x159 : ((List.range' 159 1).all fun j => tal.atRP j) = true := by kernel_rfl
set_option maxRecDepth 100000 in
theorem w0x168 : ((List.range' 168 1).all fun j => tal.atRP j) = true := by kernel_rfl
set_option maxRecDepth 100000 in
theorem w0x177 : ((List.range' 177 1).all fun j => tal.atRP j) = true := by kernel_rfl
set_option maxRecDepth 100000 in
theorem w0x186 : ((List.range' 186 1).all fun j => tal.atRP j) = true := by kernel_rfl
set_option maxRecDepth 100000 in
theorem w0x195 : ((List.range' 195 1).all fun j => tal.atRP j) = true := by kernel_rfl
set_option maxRecDepth 100000 in
theorem w0x204 : ((List.range' 204 1).all fun j => tal.atRP j) = true := by kernel_rfl
set_option maxRecDepth 100000 in
theorem w0x213 : ((List.range' 213 1).all fun j => tal.atRP j) = true := by kernel_rfl
set_option maxRecDepth 100000 in
theorem w0x222 : ((List.range' 222 1).all fun j => tal.atRP j) = true := by kernel_rfl
set_option maxRecDepth 100000 in
theorem w0x231 : ((List.range' 231 1).all fun j => tal.atRP j) = true := by kernel_rfl
set_option maxRecDepth 100000 in
theorem w0x240 : ((List.range' 240 1).all fun j => tal.atRP j) = true := by kernel_rfl
set_option maxRecDepth 100000 in
theorem w0x249 : ((List.range' 249 1).all fun j => tal.atRP j) = true := by kernel_rfl
set_option maxRecDepth 100000 in
theorem w0x258 : ((List.range' 258 1).all fun j => tal.atRP j) = true := by kernel_rfl
set_option maxRecDepth 100000 in
theorem w0x267 : ((List.range' 267 1).all fun j => tal.atRP j) = true := by kernel_rfl
set_option maxRecDepth 100000 in
theorem w0x276 : ((List.range' 276 1).all fun j => tal.atRP j) = true := by kernel_rfl
set_option maxRecDepth 100000 in
theorem w0x285 : ((List.range' 285 1).all fun j => tal.atRP j) = true := by kernel_rfl
set_option maxRecDepth 100000 in
theorem w0x294 : ((List.range' 294 1).all fun j => tal.atRP j) = true := by kernel_rfl
set_option maxRecDepth 100000 in
theorem w0x303 : ((List.range' 303 1).all fun j => tal.atRP j) = true := by kernel_rfl
set_option maxRecDepth 100000 in
theorem w0x312 : ((List.range' 312 1).all fun j => tal.atRP j) = true := by kernel_rfl
set_option maxRecDepth 100000 in
theorem w0x321 : ((List.range' 321 1).all fun j => tal.atRP j) = true := by kernel_rfl
set_option maxRecDepth 100000 in
theorem w0x330 : ((List.range' 330 1).all fun j => tal.atRP j) = true := by kernel_rfl
set_option maxRecDepth 100000 in
theorem w0x339 : ((List.range' 339 1).all fun j => tal.atRP j) = true := by kernel_rfl
set_option maxRecDepth 100000 in
theorem w0x348 : ((List.range' 348 1).all fun j => tal.atRP j) = true := by kernel_rfl
set_option maxRecDepth 100000 in
theorem w0x357 : ((List.range' 357 1).all fun j => tal.atRP j) = true := by kernel_rfl
set_option maxRecDepth 100000 in
theorem w0x366 : ((List.range' 366 1).all fun j => tal.atRP j) = true := by kernel_rfl
set_option maxRecDepth 100000 in
theorem w0x375 : ((List.range' 375 1).all fun j => tal.atRP j) = true := by kernel_rfl
set_option maxRecDepth 100000 in
theorem w0x384 : ((List.range' 384 1).all fun j => tal.atRP j) = true := by kernel_rfl
set_option maxRecDepth 100000 in
theorem w0x393 : ((List.range' 393 1).all fun j => tal.atRP j) = true := by kernel_rfl
set_option maxRecDepth 100000 in
theorem w0x402 : ((List.range' 402 1).all fun j => tal.atRP j) = true := by kernel_rfl
set_option maxRecDepth 100000 in
theorem w0x411 : ((List.range' 411 1).all fun j => tal.atRP j) = true := by kernel_rfl
set_option maxRecDepth 100000 in
theorem w0x420 : ((List.range' 420 1).all fun j => tal.atRP j) = true := by kernel_rfl
set_option maxRecDepth 100000 in
theorem w0x429 : ((List.range' 429 1).all fun j => tal.atRP j) = true := by kernel_rfl
set_option maxRecDepth 100000 in
theorem w0x438 : ((List.range' 438 1).all fun j => tal.atRP j) = true := by kernel_rfl
set_option maxRecDepth 100000 in
theorem w0x447 : ((List.range' 447 1).all fun j => tal.atRP j) = true := by kernel_rfl
set_option maxRecDepth 100000 in
theorem w0x456 : ((List.range' 456 1).all fun j => tal.atRP j) = true := by kernel_rfl
set_option maxRecDepth 100000 in
theorem w0x465 : ((List.range' 465 1).all fun j => tal.atRP j) = true := by kernel_rfl
set_option maxRecDepth 100000 in
theorem w0x474 : ((List.range' 474 1).all fun j => tal.atRP j) = true := by kernel_rfl
set_option maxRecDepth 100000 in
theorem w0x483 : ((List.range' 483 1).all fun j => tal.atRP j) = true := by kernel_rfl
set_option maxRecDepth 100000 in
theorem w0x492 : ((List.range' 492 1).all fun j => tal.atRP j) = true := by kernel_rfl
set_option maxRecDepth 100000 in
theorem w0x501 : ((List.range' 501 1).all fun j => tal.atRP j) = true := by kernel_rfl
set_option maxRecDepth 100000 in
theorem w0x510 : ((List.range' 510 1).all fun j => tal.atRP j) = true := by kernel_rfl
set_option maxRecDepth 100000 in
theorem w0x519 : ((List.range' 519 1).all fun j => tal.atRP j) = true := by kernel_rfl
set_option maxRecDepth 100000 in
theorem w0x528 : ((List.range' 528 1).all fun j => tal.atRP j) = true := by kernel_rfl
set_option maxRecDepth 100000 in
theorem w0x537 : ((List.range' 537 1).all fun j => tal.atRP j) = true := by kernel_rfl
set_option maxRecDepth 100000 in
theorem w0x546 : ((List.range' 546 1).all fun j => tal.atRP j) = true := by kernel_rfl
set_option maxRecDepth 100000 in
theorem w0x555 : ((List.range' 555 1).all fun j => tal.atRP j) = true := by kernel_rfl
set_option maxRecDepth 100000 in
theorem w0x564 : ((List.range' 564 1).all fun j => tal.atRP j) = true := by kernel_rfl
set_option maxRecDepth 100000 in
theorem w0x573 : ((List.range' 573 1).all fun j => tal.atRP j) = true := by kernel_rfl
set_option maxRecDepth 100000 in
theorem w0x582 : ((List.range' 582 1).all fun j => tal.atRP j) = true := by kernel_rfl
set_option maxRecDepth 100000 in
theorem w0x591 : ((List.range' 591 1).all fun j => tal.atRP j) = true := by kernel_rfl
set_option maxRecDepth 100000 in
theorem w0x600 : ((List.range' 600 1).all fun j => tal.atRP j) = true := by kernel_rfl
set_option maxRecDepth 100000 in
theorem w0x609 : ((List.range' 609 1).all fun j => tal.atRP j) = true := by kernel_rfl
set_option maxRecDepth 100000 in
theorem w0x618 : ((List.range' 618 1).all fun j => tal.atRP j) = true := by kernel_rfl
set_option maxRecDepth 100000 in
theorem w0x627 : ((List.range' 627 1).all fun j => tal.atRP j) = true := by kernel_rfl
set_option maxRecDepth 100000 in
theorem w0x636 : ((List.range' 636 1).all fun j => tal.atRP j) = true := by kernel_rfl
set_option maxRecDepth 100000 in
theorem w0x645 : ((List.range' 645 1).all fun j => tal.atRP j) = true := by kernel_rfl
set_option maxRecDepth 100000 in
theorem w0x654 : ((List.range' 654 1).all fun j => tal.atRP j) = true := by kernel_rfl
set_option maxRecDepth 100000 in
theorem w0x663 : ((List.range' 663 1).all fun j => tal.atRP j) = true := by kernel_rfl
set_option maxRecDepth 100000 in
theorem w0x672 : ((List.range' 672 1).all fun j => tal.atRP j) = true := by kernel_rfl
set_option maxRecDepth 100000 in
theorem w0x681 : ((List.range' 681 1).all fun j => tal.atRP j) = true := by kernel_rfl
set_option maxRecDepth 100000 in
theorem w0x690 : ((List.range' 690 1).all fun j => tal.atRP j) = true := by kernel_rfl
set_option maxRecDepth 100000 in
theorem w0x699 : ((List.range' 699 1).all fun j => tal.atRP j) = true := by kernel_rfl
set_option maxRecDepth 100000 in
theorem w0x708 : ((List.range' 708 1).all fun j => tal.atRP j) = true := by kernel_rfl
set_option maxRecDepth 100000 in
theorem w0x717 : ((List.range' 717 1).all fun j => tal.atRP j) = true := by kernel_rfl
set_option maxRecDepth 100000 in
theorem w0x726 : ((List.range' 726 1).all fun j => tal.atRP j) = true := by kernel_rfl
end Go.Proofs.YtnpfihlaocpcfaaGreatDoor.trd
