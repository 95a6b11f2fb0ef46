/- For the seat: texts joined: TrdP2. -/
import Derived.Test.YtnpfihlaocpcfaaGreatDoorJL1b
/- TrdP2: the reference's decoder of two halfwords, walked at some cases of the input. -/
namespace Go.Proofs.YtnpfihlaocpcfaaGreatDoor.trd
open Go.Sx
set_option maxRecDepth 100000
theorem w0x2 : ((List.range' 2 1).all fun j => tal.atRP j) = true := by kernel_rfl
set_option maxRecDepth 100000 in
theorem w0x11 : ((List.range' 11 1).all fun j => tal.atRP j) = true := by kernel_rfl
set_option maxRecDepth 100000 in
theorem w0x20 : ((List.range' 20 1).all fun j => tal.atRP j) = true := by kernel_rfl
set_option maxRecDepth 100000 in
theorem w0x29 : ((List.range' 29 1).all fun j => tal.atRP j) = true := by kernel_rfl
set_option maxRecDepth 100000 in
theorem w0x38 : ((List.range' 38 1).all fun j => tal.atRP j) = true := by kernel_rfl
set_option maxRecDepth 100000 in
theorem w0x47 : ((List.range' 47 1).all fun j => tal.atRP j) = true := by kernel_rfl
set_option maxRecDepth 100000 in
theorem w0x56 : ((List.range' 56 1).all fun j => tal.atRP j) = true := by kernel_rfl
set_option maxRecDepth 100000 in
theorem w0x65 : ((List.range' 65 1).all fun j => tal.atRP j) = true := by kernel_rfl
set_option maxRecDepth 100000 in
theorem w0x74 : ((List.range' 74 1).all fun j => tal.atRP j) = true := by kernel_rfl
set_option maxRecDepth 100000 in
theorem w0x83 : ((List.range' 83 1).all fun j => tal.atRP j) = true := by kernel_rfl
set_option maxRecDepth 100000 in
theorem w0x92 : ((List.range' 92 1).all fun j => tal.atRP j) = true := by kernel_rfl
set_option maxRecDepth 100000 in
theorem w0x101 : ((List.range' 101 1).all fun j => tal.atRP j) = true := by kernel_rfl
set_option maxRecDepth 100000 in
theorem w0x110 : ((List.range' 110 1).all fun j => tal.atRP j) = true := by kernel_rfl
set_option maxRecDepth 100000 in
theorem w0x119 : ((List.range' 119 1).all fun j => tal.atRP j) = true := by kernel_rfl
set_option maxRecDepth 100000 in
theorem w0x128 : ((List.range' 128 1).all fun j => tal.atRP j) = true := by kernel_rfl
set_option maxRecDepth 100000 in
theorem w0x137 : ((List.range' 137 1).all fun j => tal.atRP j) = true := by kernel_rfl
set_option maxRecDepth 100000 in
theorem w0x146 : ((List.range' 146 1).all fun j => tal.atRP j) = true := by kernel_rfl
set_option maxRecDepth 100000 in
theorem w0x155 : ((List.range' 155 1).all fun j => tal.atRP j) = true := by kernel_rfl
set_option maxRecDepth 100000 in
theorem w0x164 : ((List.range' 164 1).all fun j => tal.atRP j) = true := by kernel_rfl
set_option maxRecDepth 100000 in
theorem w0x173 : ((List.range' 173 1).all fun j => tal.atRP j) = true := by kernel_rfl
set_option maxRecDepth 100000 in
theorem w0x182 : ((List.range' 182 1).all fun j => tal.atRP j) = true := by kernel_rfl
set_option maxRecDepth 100000 in
theorem w0x191 : ((List.range' 191 1).all fun j => tal.atRP j) = true := by kernel_rfl
set_option maxRecDepth 100000 in
theorem w0x200 : ((List.range' 200 1).all fun j => tal.atRP j) = true := by kernel_rfl
set_option maxRecDepth 100000 in
theorem w0x209 : ((List.range' 209 1).all fun j => tal.atRP j) = true := by kernel_rfl
set_option maxRecDepth 100000 in
theorem w0x218 : ((List.range' 218 1).all fun j => tal.atRP j) = true := by kernel_rfl
set_option maxRecDepth 100000 in
theorem w0x227 : ((List.range' 227 1).all fun j => tal.atRP j) = true := by kernel_rfl
set_option maxRecDepth 100000 in
theorem w0x236 : ((List.range' 236 1).all fun j => tal.atRP j) = true := by kernel_rfl
set_option maxRecDepth 100000 in
theorem w0x245 : ((List.range' 245 1).all fun j => tal.atRP j) = true := by kernel_rfl
set_option maxRecDepth 100000 in
theorem w0x254 : ((List.range' 254 1).all fun j => tal.atRP j) = true := by kernel_rfl
set_option maxRecDepth 100000 in
theorem w0x263 : ((List.range' 263 1).all fun j => tal.atRP j) = true := by kernel_rfl
set_option maxRecDepth 100000 in
theorem w0x272 : ((List.range' 272 1).all fun j => tal.atRP j) = true := by kernel_rfl
set_option maxRecDepth 100000 in
theorem w0x281 : ((List.range' 281 1).all fun j => tal.atRP j) = true := by kernel_rfl
set_option maxRecDepth 100000 in
theorem w0x290 : ((List.range' 290 1).all fun j => tal.atRP j) = true := by kernel_rfl
set_option maxRecDepth 100000 in
theorem w0x299 : ((List.range' 299 1).all fun j => tal.atRP j) = true := by kernel_rfl
set_option maxRecDepth 100000 in
theorem w0x308 : ((List.range' 308 1).all fun j => tal.atRP j) = true := by kernel_rfl
set_option maxRecDepth 100000 in
theorem w0x317 : ((List.range' 317 1).all fun j => tal.atRP j) = true := by kernel_rfl
set_option maxRecDepth 100000 in
theorem w0x326 : ((List.range' 326 1).all fun j => tal.atRP j) = true := by kernel_rfl
set_option maxRecDepth 100000 in
theorem w0x335 : ((List.range' 335 1).all fun j => tal.atRP j) = true := by kernel_rfl
set_option maxRecDepth 100000 in
theorem w0x344 : ((List.range' 344 1).all fun j => tal.atRP j) = true := by kernel_rfl
set_option maxRecDepth 100000 in
theorem w0x353 : ((List.range' 353 1).all fun j => tal.atRP j) = true := by kernel_rfl
set_option maxRecDepth 100000 in
theorem w0x362 : ((List.range' 362 1).all fun j => tal.atRP j) = true := by kernel_rfl
set_option maxRecDepth 100000 in
theorem w0x371 : ((List.range' 371 1).all fun j => tal.atRP j) = true := by kernel_rfl
set_option maxRecDepth 100000 in
theorem w0x380 : ((List.range' 380 1).all fun j => tal.atRP j) = true := by kernel_rfl
set_option maxRecDepth 100000 in
theorem w0x389 : ((List.range' 389 1).all fun j => tal.atRP j) = true := by kernel_rfl
set_option maxRecDepth 100000 in
theorem w0x398 : ((List.range' 398 1).all fun j => tal.atRP j) = true := by kernel_rfl
set_option maxRecDepth 100000 in
theorem w0x407 : ((List.range' 407 1).all fun j => tal.atRP j) = true := by kernel_rfl
set_option maxRecDepth 100000 in
theorem w0x416 : ((List.range' 416 1).all fun j => tal.atRP j) = true := by kernel_rfl
set_option maxRecDepth 100000 in
theorem w0x425 : ((List.range' 425 1).all fun j => tal.atRP j) = true := by kernel_rfl
set_option maxRecDepth 100000 in
theorem w0x434 : ((List.range' 434 1).all fun j => tal.atRP j) = true := by kernel_rfl
set_option maxRecDepth 100000 in
theorem w0x443 : ((List.range' 443 1).all fun j => tal.atRP j) = true := by kernel_rfl
set_option maxRecDepth 100000 in
theorem w0x452 : ((List.range' 452 1).all fun j => tal.atRP j) = true := by kernel_rfl
set_option maxRecDepth 100000 in
theorem w0x461 : ((List.range' 461 1).all fun j => tal.atRP j) = true := by kernel_rfl
set_option maxRecDepth 100000 in
theorem w0x470 : ((List.range' 470 1).all fun j => tal.atRP j) = true := by kernel_rfl
set_option maxRecDepth 100000 in
theorem w0x479 : ((List.range' 479 1).all fun j => tal.atRP j) = true := by kernel_rfl
set_option maxRecDepth 100000 in
theorem w0x488 : ((List.range' 488 1).all fun j => tal.atRP j) = true := by kernel_rfl
set_option maxRecDepth 100000 in
theorem w0x497 : ((List.range' 497 1).all fun j => tal.atRP j) = true := by kernel_rfl
set_option maxRecDepth 100000 in
theorem w0x506 : ((List.range' 506 1).all fun j => tal.atRP j) = true := by kernel_rfl
set_option maxRecDepth 100000 in
theorem w0x515 : ((List.range' 515 1).all fun j => tal.atRP j) = true := by kernel_rfl
set_option maxRecDepth 100000 in
theorem w0x524 : ((List.range' 524 1).all fun j => tal.atRP j) = true := by kernel_rfl
set_option maxRecDepth 100000 in
theorem w0x533 : ((List.range' 533 1).all fun j => tal.atRP j) = true := by kernel_rfl
set_option maxRecDepth 100000 in
theorem w0x542 : ((List.range' 542 1).all fun j => tal.atRP j) = true := by kernel_rfl
set_option maxRecDepth 100000 in
theorem w0x551 : ((List.range' 551 1).all fun j => tal.atRP j) = true := by kernel_rfl
set_option maxRecDepth 100000 in
theorem w0x560 : ((List.range' 560 1).all fun j => tal.atRP j) = true := by kernel_rfl
set_option maxRecDepth 100000 in
theorem w0x569 : ((List.range' 569 1).all fun j => tal.atRP j) = true := by kernel_rfl
set_option maxRecDepth 100000 in
theorem w0x578 : ((List.range' 578 1).all fun j => tal.atRP j) = true := by kernel_rfl
set_option maxRecDepth 100000 in
theorem w0x587 : ((List.range' 587 1).all fun j => tal.atRP j) = true := by kernel_rfl
set_option maxRecDepth 100000 in
theorem w0x596 : ((List.range' 596 1).all fun j => tal.atRP j) = true := by kernel_rfl
set_option maxRecDepth 100000 in
theorem w0x605 : ((List.range' 605 1).all fun j => tal.atRP j) = true := by kernel_rfl
set_option maxRecDepth 100000 in
theorem w0x614 : ((List.range' 614 1).all fun j => tal.atRP j) = true := by kernel_rfl
set_option maxRecDepth 100000 in
theorem w0x623 : ((List.range' 623 1).all fun j => tal.atRP j) = true := by kernel_rfl
set_option maxRecDepth 100000 in
theorem w0x632 : ((List.range' 632 1).all fun j => tal.atRP j) = true := by kernel_rfl
set_option maxRecDepth 100000 in
theorem w0x641 : ((List.range' 641 1).all fun j => tal.atRP j) = true := by kernel_rfl
set_option maxRecDepth 100000 in
theorem w0x650 : ((List.range' 650 1).all fun j => tal.atRP j) = true := by kernel_rfl
set_option maxRecDepth 100000 in
theorem w0x659 : ((List.range' 659 1).all fun j => tal.atRP j) = true := by kernel_rfl
set_option maxRecDepth 100000 in
theorem w0x668 : ((List.range' 668 1).all fun j => tal.atRP j) = true := by kernel_rfl
set_option maxRecDepth 100000 in
theorem w0x677 : ((List.range' 677 1).all fun j => tal.atRP j) = true := by kernel_rfl
set_option maxRecDepth 100000 in
theorem w0x686 : ((List.range' 686 1).all fun j => tal.atRP j) = true := by kernel_rfl
set_option maxRecDepth 100000 in
theorem w0x695 : ((List.range' 695 1).all fun j => tal.atRP j) = true := by kernel_rfl
set_option maxRecDepth 100000 in
theorem w0x704 : ((List.range' 704 1).all fun j => tal.atRP j) = true := by kernel_rfl
set_option maxRecDepth 100000 in
theorem w0x713 : ((List.range' 713 1).all fun j => tal.atRP j) = true := by kernel_rfl
set_option maxRecDepth 100000 in
theorem w0x722 : ((List.range' 722 1).all fun j => tal.atRP j) = true := by kernel_rfl
set_option maxRecDepth 100000 in
theorem w0x731 : ((List.range' 731 1).all fun j => tal.atRP j) = true := by kernel_rfl
end Go.Proofs.YtnpfihlaocpcfaaGreatDoor.trd
