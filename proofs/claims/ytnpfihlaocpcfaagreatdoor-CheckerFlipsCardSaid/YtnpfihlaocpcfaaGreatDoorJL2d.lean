/- For the seat: texts joined: Trd, KrE. -/
import Derived.Test.YtnpfihlaocpcfaaGreatDoorJHTrdP0
import Derived.Test.YtnpfihlaocpcfaaGreatDoorJHTrdP1
import Derived.Test.YtnpfihlaocpcfaaGreatDoorJHTrdP2
import Derived.Test.YtnpfihlaocpcfaaGreatDoorJHTrdP3
import Derived.Test.YtnpfihlaocpcfaaGreatDoorJHTrdP4
import Derived.Test.YtnpfihlaocpcfaaGreatDoorJHTrdP5
import Derived.Test.YtnpfihlaocpcfaaGreatDoorJHTrdP6
import Derived.Test.YtnpfihlaocpcfaaGreatDoorJHTrdP7
import Derived.Test.YtnpfihlaocpcfaaGreatDoorJHTrdP8
import Derived.Test.YtnpfihlaocpcfaaGreatDoorJHTrdP9
import Derived.Test.YtnpfihlaocpcfaaGreatDoorJL1b
import Derived.Test.YtnpfihlaocpcfaaGreatDoorJL2c
/- Trd: all cases of the input. -/
namespace Go.Proofs.YtnpfihlaocpcfaaGreatDoor.trd
open Go.Sx
set_option maxRecDepth 100000
theorem pc {P : Nat → Bool} {X E a n : Nat} (w : ((List.range' a n).all fun j => P j) = true) (rest : ∀ j : Nat, a + n ≤ j → j < E → j ≠ X → P j = true) : ∀ j : Nat, a ≤ j → j < E → j ≠ X → P j = true := fun j h1 h2 h3 => by
  rcases Nat.lt_or_ge j (a + n) with h | h
  · exact List.all_eq_true.1 w j (List.mem_range'_1.2 ⟨h1, h⟩)
  · exact rest j h h2 h3
set_option maxRecDepth 100000 in
theorem pcg {P : Nat → Bool} {E a n : Nat} (w : ((List.range' a n).all fun j => P j) = true) (rest : ∀ j : Nat, a + n + 1 ≤ j → j < E → j ≠ a + n → P j = true) : ∀ j : Nat, a ≤ j → j < E → j ≠ a + n → P j = true := fun j h1 h2 h3 => by
  rcases Nat.lt_or_ge j (a + n) with h | h
  · exact List.all_eq_true.1 w j (List.mem_range'_1.2 ⟨h1, h⟩)
  · exact rest j (by omega) h2 h3
set_option maxRecDepth 100000 in
set_option maxHeartbeats 4000000 in
theorem all' : ∀ j : Nat, 0 ≤ j → j < 733 → j ≠ 733 → tal.atRP j = true := by
  refine pc w0x0 ?_
  refine pc w0x1 ?_
  refine pc w0x2 ?_
  refine pc w0x3 ?_
  refine pc w0x4 ?_
  refine pc w0x5 ?_
  refine pc w0x6 ?_
  refine pc w0x7 ?_
  refine pc w0x8 ?_
  refine pc w0x9 ?_
  refine pc w0x10 ?_
  refine pc w0x11 ?_
  refine pc w0x12 ?_
  refine pc w0x13 ?_
  refine pc w0x14 ?_
  refine pc w0x15 ?_
  refine pc w0x16 ?_
  refine pc w0x17 ?_
  refine pc w0x18 ?_
  refine pc w0x19 ?_
  refine pc w0x20 ?_
  refine pc w0x21 ?_
  refine pc w0x22 ?_
  refine pc w0x23 ?_
  refine pc w0x24 ?_
  refine pc w0x25 ?_
  refine pc w0x26 ?_
  refine pc w0x27 ?_
  refine pc w0x28 ?_
  refine pc w0x29 ?_
  refine pc w0x30 ?_
  refine pc w0x31 ?_
  refine pc w0x32 ?_
  refine pc w0x33 ?_
  refine pc w0x34 ?_
  refine pc w0x35 ?_
  refine pc w0x36 ?_
  refine pc w0x37 ?_
  refine pc w0x38 ?_
  refine pc w0x39 ?_
  refine pc w0x40 ?_
  refine pc w0x41 ?_
  refine pc w0x42 ?_
  refine pc w0x43 ?_
  refine pc w0x44 ?_
  refine pc w0x45 ?_
  refine pc w0x46 ?_
  refine pc w0x47 ?_
  refine pc w0x48 ?_
  refine pc w0x49 ?_
  refine pc w0x50 ?_
  refine pc w0x51 ?_
  refine pc w0x52 ?_
  refine pc w0x53 ?_
  refine pc w0x54 ?_
  refine pc w0x55 ?_
  refine pc w0x56 ?_
  refine pc w0x57 ?_
  refine pc w0x58 ?_
  refine pc w0x59 ?_
  refine pc w0x60 ?_
  refine pc w0x61 ?_
  refine pc w0x62 ?_
  refine pc w0x63 ?_
  refine pc w0x64 ?_
  refine pc w0x65 ?_
  refine pc w0x66 ?_
  refine pc w0x67 ?_
  refine pc w0x68 ?_
  refine pc w0x69 ?_
  refine pc w0x70 ?_
  refine pc w0x71 ?_
  refine pc w0x72 ?_
  refine pc w0x73 ?_
  refine pc w0x74 ?_
  refine pc w0x75 ?_
  refine pc w0x76 ?_
  refine pc w0x77 ?_
  refine pc w0x78 ?_
  refine pc w0x79 ?_
  refine pc w0x80 ?_
  refine pc w0x81 ?_
  refine pc w0x82 ?_
  refine pc w0x83 ?_
  refine pc w0x84 ?_
  refine pc w0x85 ?_
  refine pc w0x86 ?_
  refine pc w0x87 ?_
  refine pc w0x88 ?_
  refine pc w0x89 ?_
  refine pc w0x90 ?_
  refine pc w0x91 ?_
  refine pc w0x92 ?_
  refine pc w0x93 ?_
  refine pc w0x94 ?_
  refine pc w0x95 ?_
  refine pc w0x96 ?_
  refine pc w0x97 ?_
  refine pc w0x98 ?_
  refine pc w0x99 ?_
  refine pc w0x100 ?_
  refine pc w0x101 ?_
  refine pc w0x102 ?_
  refine pc w0x103 ?_
  refine pc w0x104 ?_
  refine pc w0x105 ?_
  refine pc w0x106 ?_
  refine pc w0x107 ?_
  refine pc w0x108 ?_
  refine pc w0x109 ?_
  refine pc w0x110 ?_
  refine pc w0x111 ?_
  refine pc w0x112 ?_
  refine pc w0x113 ?_
  refine pc w0x114 ?_
  refine pc w0x115 ?_
  refine pc w0x116 ?_
  refine pc w0x117 ?_
  refine pc w0x118 ?_
  refine pc w0x119 ?_
  refine pc w0x120 ?_
  refine pc w0x121 ?_
  refine pc w0x122 ?_
  refine pc w0x123 ?_
  refine pc w0x124 ?_
  refine pc w0x125 ?_
  refine pc w0x126 ?_
  refine pc w0x127 ?_
  refine pc w0x128 ?_
  refine pc w0x129 ?_
  refine pc w0x130 ?_
  refine pc w0x131 ?_
  refine pc w0x132 ?_
  refine pc w0x133 ?_
  refine pc w0x134 ?_
  refine pc w0x135 ?_
  refine pc w0x136 ?_
  refine pc w0x137 ?_
  refine pc w0x138 ?_
  refine pc w0x139 ?_
  refine pc w0x140 ?_
  refine pc w0x141 ?_
  refine pc w0x142 ?_
  refine pc w0x143 ?_
  refine pc w0x144 ?_
  refine pc w0x145 ?_
  refine pc w0x146 ?_
  refine pc w0x147 ?_
  refine pc w0x148 ?_
  refine pc w0x149 ?_
  refine pc w0x150 ?_
  refine pc w0x151 ?_
  refine pc w0x152 ?_
  refine pc w0x153 ?_
  refine pc w0x154 ?_
  refine pc w0x155 ?_
  refine pc w0x156 ?_
  refine pc w0x157 ?_
  refine pc w0x158 ?_
  refine pc w0x159 ?_
  refine pc w0x160 ?_
  refine pc w0x161 ?_
  refine pc w0x162 ?_
  refine pc w0x163 ?_
  refine pc w0x164 ?_
  refine pc w0x165 ?_
  refine pc w0x166 ?_
  refine pc w0x167 ?_
  refine pc w0x168 ?_
  refine pc w0x169 ?_
  refine pc w0x170 ?_
  refine pc w0x171 ?_
  refine pc w0x172 ?_
  refine pc w0x173 ?_
  refine pc w0x174 ?_
  refine pc w0x175 ?_
  refine pc w0x176 ?_
  refine pc w0x177 ?_
  refine pc w0x178 ?_
  refine pc w0x179 ?_
  refine pc w0x180 ?_
  refine pc w0x181 ?_
  refine pc w0x182 ?_
  refine pc w0x183 ?_
  refine pc w0x184 ?_
  refine pc w0x185 ?_
  refine pc w0x186 ?_
  refine pc w0x187 ?_
  refine pc w0x188 ?_
  refine pc w0x189 ?_
  refine pc w0x190 ?_
  refine pc w0x191 ?_
  refine pc w0x192 ?_
  refine pc w0x193 ?_
  refine pc w0x194 ?_
  refine pc w0x195 ?_
  refine pc w0x196 ?_
  refine pc w0x197 ?_
  refine pc w0x198 ?_
  refine pc w0x199 ?_
  refine pc w0x200 ?_
  refine pc w0x201 ?_
  refine pc w0x202 ?_
  refine pc w0x203 ?_
  refine pc w0x204 ?_
  refine pc w0x205 ?_
  refine pc w0x206 ?_
  refine pc w0x207 ?_
  refine pc w0x208 ?_
  refine pc w0x209 ?_
  refine pc w0x210 ?_
  refine pc w0x211 ?_
  refine pc w0x212 ?_
  refine pc w0x213 ?_
  refine pc w0x214 ?_
  refine pc w0x215 ?_
  refine pc w0x216 ?_
  refine pc w0x217 ?_
  refine pc w0x218 ?_
  refine pc w0x219 ?_
  refine pc w0x220 ?_
  refine pc w0x221 ?_
  refine pc w0x222 ?_
  refine pc w0x223 ?_
  refine pc w0x224 ?_
  refine pc w0x225 ?_
  refine pc w0x226 ?_
  refine pc w0x227 ?_
  refine pc w0x228 ?_
  refine pc w0x229 ?_
  refine pc w0x230 ?_
  refine pc w0x231 ?_
  refine pc w0x232 ?_
  refine pc w0x233 ?_
  refine pc w0x234 ?_
  refine pc w0x235 ?_
  refine pc w0x236 ?_
  refine pc w0x237 ?_
  refine pc w0x238 ?_
  refine pc w0x239 ?_
  refine pc w0x240 ?_
  refine pc w0x241 ?_
  refine pc w0x242 ?_
  refine pc w0x243 ?_
  refine pc w0x244 ?_
  refine pc w0x245 ?_
  refine pc w0x246 ?_
  refine pc w0x247 ?_
  refine pc w0x248 ?_
  refine pc w0x249 ?_
  refine pc w0x250 ?_
  refine pc w0x251 ?_
  refine pc w0x252 ?_
  refine pc w0x253 ?_
  refine pc w0x254 ?_
  refine pc w0x255 ?_
  refine pc w0x256 ?_
  refine pc w0x257 ?_
  refine pc w0x258 ?_
  refine pc w0x259 ?_
  refine pc w0x260 ?_
  refine pc w0x261 ?_
  refine pc w0x262 ?_
  refine pc w0x263 ?_
  refine pc w0x264 ?_
  refine pc w0x265 ?_
  refine pc w0x266 ?_
  refine pc w0x267 ?_
  refine pc w0x268 ?_
  refine pc w0x269 ?_
  refine pc w0x270 ?_
  refine pc w0x271 ?_
  refine pc w0x272 ?_
  refine pc w0x273 ?_
  refine pc w0x274 ?_
  refine pc w0x275 ?_
  refine pc w0x276 ?_
  refine pc w0x277 ?_
  refine pc w0x278 ?_
  refine pc w0x279 ?_
  refine pc w0x280 ?_
  refine pc w0x281 ?_
  refine pc w0x282 ?_
  refine pc w0x283 ?_
  refine pc w0x284 ?_
  refine pc w0x285 ?_
  refine pc w0x286 ?_
  refine pc w0x287 ?_
  refine pc w0x288 ?_
  refine pc w0x289 ?_
  refine pc w0x290 ?_
  refine pc w0x291 ?_
  refine pc w0x292 ?_
  refine pc w0x293 ?_
  refine pc w0x294 ?_
  refine pc w0x295 ?_
  refine pc w0x296 ?_
  refine pc w0x297 ?_
  refine pc w0x298 ?_
  refine pc w0x299 ?_
  refine pc w0x300 ?_
  refine pc w0x301 ?_
  refine pc w0x302 ?_
  refine pc w0x303 ?_
  refine pc w0x304 ?_
  refine pc w0x305 ?_
  refine pc w0x306 ?_
  refine pc w0x307 ?_
  refine pc w0x308 ?_
  refine pc w0x309 ?_
  refine pc w0x310 ?_
  refine pc w0x311 ?_
  refine pc w0x312 ?_
  refine pc w0x313 ?_
  refine pc w0x314 ?_
  refine pc w0x315 ?_
  refine pc w0x316 ?_
  refine pc w0x317 ?_
  refine pc w0x318 ?_
  refine pc w0x319 ?_
  refine pc w0x320 ?_
  refine pc w0x321 ?_
  refine pc w0x322 ?_
  refine pc w0x323 ?_
  refine pc w0x324 ?_
  refine pc w0x325 ?_
  refine pc w0x326 ?_
  refine pc w0x327 ?_
  refine pc w0x328 ?_
  refine pc w0x329 ?_
  refine pc w0x330 ?_
  refine pc w0x331 ?_
  refine pc w0x332 ?_
  refine pc w0x333 ?_
  refine pc w0x334 ?_
  refine pc w0x335 ?_
  refine pc w0x336 ?_
  refine pc w0x337 ?_
  refine pc w0x338 ?_
  refine pc w0x339 ?_
  refine pc w0x340 ?_
  refine pc w0x341 ?_
  refine pc w0x342 ?_
  refine pc w0x343 ?_
  refine pc w0x344 ?_
  refine pc w0x345 ?_
  refine pc w0x346 ?_
  refine pc w0x347 ?_
  refine pc w0x348 ?_
  refine pc w0x349 ?_
  refine pc w0x350 ?_
  refine pc w0x351 ?_
  refine pc w0x352 ?_
  refine pc w0x353 ?_
  refine pc w0x354 ?_
  refine pc w0x355 ?_
  refine pc w0x356 ?_
  refine pc w0x357 ?_
  refine pc w0x358 ?_
  refine pc w0x359 ?_
  refine pc w0x360 ?_
  refine pc w0x361 ?_
  refine pc w0x362 ?_
  refine pc w0x363 ?_
  refine pc w0x364 ?_
  refine pc w0x365 ?_
  refine pc w0x366 ?_
  refine pc w0x367 ?_
  refine pc w0x368 ?_
  refine pc w0x369 ?_
  refine pc w0x370 ?_
  refine pc w0x371 ?_
  refine pc w0x372 ?_
  refine pc w0x373 ?_
  refine pc w0x374 ?_
  refine pc w0x375 ?_
  refine pc w0x376 ?_
  refine pc w0x377 ?_
  refine pc w0x378 ?_
  refine pc w0x379 ?_
  refine pc w0x380 ?_
  refine pc w0x381 ?_
  refine pc w0x382 ?_
  refine pc w0x383 ?_
  refine pc w0x384 ?_
  refine pc w0x385 ?_
  refine pc w0x386 ?_
  refine pc w0x387 ?_
  refine pc w0x388 ?_
  refine pc w0x389 ?_
  refine pc w0x390 ?_
  refine pc w0x391 ?_
  refine pc w0x392 ?_
  refine pc w0x393 ?_
  refine pc w0x394 ?_
  refine pc w0x395 ?_
  refine pc w0x396 ?_
  refine pc w0x397 ?_
  refine pc w0x398 ?_
  refine pc w0x399 ?_
  refine pc w0x400 ?_
  refine pc w0x401 ?_
  refine pc w0x402 ?_
  refine pc w0x403 ?_
  refine pc w0x404 ?_
  refine pc w0x405 ?_
  refine pc w0x406 ?_
  refine pc w0x407 ?_
  refine pc w0x408 ?_
  refine pc w0x409 ?_
  refine pc w0x410 ?_
  refine pc w0x411 ?_
  refine pc w0x412 ?_
  refine pc w0x413 ?_
  refine pc w0x414 ?_
  refine pc w0x415 ?_
  refine pc w0x416 ?_
  refine pc w0x417 ?_
  refine pc w0x418 ?_
  refine pc w0x419 ?_
  refine pc w0x420 ?_
  refine pc w0x421 ?_
  refine pc w0x422 ?_
  refine pc w0x423 ?_
  refine pc w0x424 ?_
  refine pc w0x425 ?_
  refine pc w0x426 ?_
  refine pc w0x427 ?_
  refine pc w0x428 ?_
  refine pc w0x429 ?_
  refine pc w0x430 ?_
  refine pc w0x431 ?_
  refine pc w0x432 ?_
  refine pc w0x433 ?_
  refine pc w0x434 ?_
  refine pc w0x435 ?_
  refine pc w0x436 ?_
  refine pc w0x437 ?_
  refine pc w0x438 ?_
  refine pc w0x439 ?_
  refine pc w0x440 ?_
  refine pc w0x441 ?_
  refine pc w0x442 ?_
  refine pc w0x443 ?_
  refine pc w0x444 ?_
  refine pc w0x445 ?_
  refine pc w0x446 ?_
  refine pc w0x447 ?_
  refine pc w0x448 ?_
  refine pc w0x449 ?_
  refine pc w0x450 ?_
  refine pc w0x451 ?_
  refine pc w0x452 ?_
  refine pc w0x453 ?_
  refine pc w0x454 ?_
  refine pc w0x455 ?_
  refine pc w0x456 ?_
  refine pc w0x457 ?_
  refine pc w0x458 ?_
  refine pc w0x459 ?_
  refine pc w0x460 ?_
  refine pc w0x461 ?_
  refine pc w0x462 ?_
  refine pc w0x463 ?_
  refine pc w0x464 ?_
  refine pc w0x465 ?_
  refine pc w0x466 ?_
  refine pc w0x467 ?_
  refine pc w0x468 ?_
  refine pc w0x469 ?_
  refine pc w0x470 ?_
  refine pc w0x471 ?_
  refine pc w0x472 ?_
  refine pc w0x473 ?_
  refine pc w0x474 ?_
  refine pc w0x475 ?_
  refine pc w0x476 ?_
  refine pc w0x477 ?_
  refine pc w0x478 ?_
  refine pc w0x479 ?_
  refine pc w0x480 ?_
  refine pc w0x481 ?_
  refine pc w0x482 ?_
  refine pc w0x483 ?_
  refine pc w0x484 ?_
  refine pc w0x485 ?_
  refine pc w0x486 ?_
  refine pc w0x487 ?_
  refine pc w0x488 ?_
  refine pc w0x489 ?_
  refine pc w0x490 ?_
  refine pc w0x491 ?_
  refine pc w0x492 ?_
  refine pc w0x493 ?_
  refine pc w0x494 ?_
  refine pc w0x495 ?_
  refine pc w0x496 ?_
  refine pc w0x497 ?_
  refine pc w0x498 ?_
  refine pc w0x499 ?_
  refine pc w0x500 ?_
  refine pc w0x501 ?_
  refine pc w0x502 ?_
  refine pc w0x503 ?_
  refine pc w0x504 ?_
  refine pc w0x505 ?_
  refine pc w0x506 ?_
  refine pc w0x507 ?_
  refine pc w0x508 ?_
  refine pc w0x509 ?_
  refine pc w0x510 ?_
  refine pc w0x511 ?_
  refine pc w0x512 ?_
  refine pc w0x513 ?_
  refine pc w0x514 ?_
  refine pc w0x515 ?_
  refine pc w0x516 ?_
  refine pc w0x517 ?_
  refine pc w0x518 ?_
  refine pc w0x519 ?_
  refine pc w0x520 ?_
  refine pc w0x521 ?_
  refine pc w0x522 ?_
  refine pc w0x523 ?_
  refine pc w0x524 ?_
  refine pc w0x525 ?_
  refine pc w0x526 ?_
  refine pc w0x527 ?_
  refine pc w0x528 ?_
  refine pc w0x529 ?_
  refine pc w0x530 ?_
  refine pc w0x531 ?_
  refine pc w0x532 ?_
  refine pc w0x533 ?_
  refine pc w0x534 ?_
  refine pc w0x535 ?_
  refine pc w0x536 ?_
  refine pc w0x537 ?_
  refine pc w0x538 ?_
  refine pc w0x539 ?_
  refine pc w0x540 ?_
  refine pc w0x541 ?_
  refine pc w0x542 ?_
  refine pc w0x543 ?_
  refine pc w0x544 ?_
  refine pc w0x545 ?_
  refine pc w0x546 ?_
  refine pc w0x547 ?_
  refine pc w0x548 ?_
  refine pc w0x549 ?_
  refine pc w0x550 ?_
  refine pc w0x551 ?_
  refine pc w0x552 ?_
  refine pc w0x553 ?_
  refine pc w0x554 ?_
  refine pc w0x555 ?_
  refine pc w0x556 ?_
  refine pc w0x557 ?_
  refine pc w0x558 ?_
  refine pc w0x559 ?_
  refine pc w0x560 ?_
  refine pc w0x561 ?_
  refine pc w0x562 ?_
  refine pc w0x563 ?_
  refine pc w0x564 ?_
  refine pc w0x565 ?_
  refine pc w0x566 ?_
  refine pc w0x567 ?_
  refine pc w0x568 ?_
  refine pc w0x569 ?_
  refine pc w0x570 ?_
  refine pc w0x571 ?_
  refine pc w0x572 ?_
  refine pc w0x573 ?_
  refine pc w0x574 ?_
  refine pc w0x575 ?_
  refine pc w0x576 ?_
  refine pc w0x577 ?_
  refine pc w0x578 ?_
  refine pc w0x579 ?_
  refine pc w0x580 ?_
  refine pc w0x581 ?_
  refine pc w0x582 ?_
  refine pc w0x583 ?_
  refine pc w0x584 ?_
  refine pc w0x585 ?_
  refine pc w0x586 ?_
  refine pc w0x587 ?_
  refine pc w0x588 ?_
  refine pc w0x589 ?_
  refine pc w0x590 ?_
  refine pc w0x591 ?_
  refine pc w0x592 ?_
  refine pc w0x593 ?_
  refine pc w0x594 ?_
  refine pc w0x595 ?_
  refine pc w0x596 ?_
  refine pc w0x597 ?_
  refine pc w0x598 ?_
  refine pc w0x599 ?_
  refine pc w0x600 ?_
  refine pc w0x601 ?_
  refine pc w0x602 ?_
  refine pc w0x603 ?_
  refine pc w0x604 ?_
  refine pc w0x605 ?_
  refine pc w0x606 ?_
  refine pc w0x607 ?_
  refine pc w0x608 ?_
  refine pc w0x609 ?_
  refine pc w0x610 ?_
  refine pc w0x611 ?_
  refine pc w0x612 ?_
  refine pc w0x613 ?_
  refine pc w0x614 ?_
  refine pc w0x615 ?_
  refine pc w0x616 ?_
  refine pc w0x617 ?_
  refine pc w0x618 ?_
  refine pc w0x619 ?_
  refine pc w0x620 ?_
  refine pc w0x621 ?_
  refine pc w0x622 ?_
  refine pc w0x623 ?_
  refine pc w0x624 ?_
  refine pc w0x625 ?_
  refine pc w0x626 ?_
  refine pc w0x627 ?_
  refine pc w0x628 ?_
  refine pc w0x629 ?_
  refine pc w0x630 ?_
  refine pc w0x631 ?_
  refine pc w0x632 ?_
  refine pc w0x633 ?_
  refine pc w0x634 ?_
  refine pc w0x635 ?_
  refine pc w0x636 ?_
  refine pc w0x637 ?_
  refine pc w0x638 ?_
  refine pc w0x639 ?_
  refine pc w0x640 ?_
  refine pc w0x641 ?_
  refine pc w0x642 ?_
  refine pc w0x643 ?_
  refine pc w0x644 ?_
  refine pc w0x645 ?_
  refine pc w0x646 ?_
  refine pc w0x647 ?_
  refine pc w0x648 ?_
  refine pc w0x649 ?_
  refine pc w0x650 ?_
  refine pc w0x651 ?_
  refine pc w0x652 ?_
  refine pc w0x653 ?_
  refine pc w0x654 ?_
  refine pc w0x655 ?_
  refine pc w0x656 ?_
  refine pc w0x657 ?_
  refine pc w0x658 ?_
  refine pc w0x659 ?_
  refine pc w0x660 ?_
  refine pc w0x661 ?_
  refine pc w0x662 ?_
  refine pc w0x663 ?_
  refine pc w0x664 ?_
  refine pc w0x665 ?_
  refine pc w0x666 ?_
  refine pc w0x667 ?_
  refine pc w0x668 ?_
  refine pc w0x669 ?_
  refine pc w0x670 ?_
  refine pc w0x671 ?_
  refine pc w0x672 ?_
  refine pc w0x673 ?_
  refine pc w0x674 ?_
  refine pc w0x675 ?_
  refine pc w0x676 ?_
  refine pc w0x677 ?_
  refine pc w0x678 ?_
  refine pc w0x679 ?_
  refine pc w0x680 ?_
  refine pc w0x681 ?_
  refine pc w0x682 ?_
  refine pc w0x683 ?_
  refine pc w0x684 ?_
  refine pc w0x685 ?_
  refine pc w0x686 ?_
  refine pc w0x687 ?_
  refine pc w0x688 ?_
  refine pc w0x689 ?_
  refine pc w0x690 ?_
  refine pc w0x691 ?_
  refine pc w0x692 ?_
  refine pc w0x693 ?_
  refine pc w0x694 ?_
  refine pc w0x695 ?_
  refine pc w0x696 ?_
  refine pc w0x697 ?_
  refine pc w0x698 ?_
  refine pc w0x699 ?_
  refine pc w0x700 ?_
  refine pc w0x701 ?_
  refine pc w0x702 ?_
  refine pc w0x703 ?_
  refine pc w0x704 ?_
  refine pc w0x705 ?_
  refine pc w0x706 ?_
  refine pc w0x707 ?_
  refine pc w0x708 ?_
  refine pc w0x709 ?_
  refine pc w0x710 ?_
  refine pc w0x711 ?_
  refine pc w0x712 ?_
  refine pc w0x713 ?_
  refine pc w0x714 ?_
  refine pc w0x715 ?_
  refine pc w0x716 ?_
  refine pc w0x717 ?_
  refine pc w0x718 ?_
  refine pc w0x719 ?_
  refine pc w0x720 ?_
  refine pc w0x721 ?_
  refine pc w0x722 ?_
  refine pc w0x723 ?_
  refine pc w0x724 ?_
  refine pc w0x725 ?_
  refine pc w0x726 ?_
  refine pc w0x727 ?_
  refine pc w0x728 ?_
  refine pc w0x729 ?_
  refine pc w0x730 ?_
  refine pc w0x731 ?_
  refine pc w0x732 ?_
  intro j h1 h2 _
  exact absurd h2 (Nat.not_lt.2 h1)
set_option maxRecDepth 100000 in
theorem all : ∀ j : Nat, j < 733 → tal.atRP j = true := fun j h => all' j (Nat.zero_le _) h (Nat.ne_of_lt h)
end Go.Proofs.YtnpfihlaocpcfaaGreatDoor.trd
/- For the seat: the reference's Decode at any halfwords, as a function of them. -/
namespace Go.Proofs.YtnpfihlaocpcfaaGreatDoor
open Go.Sx Go.ChangeShapes Go.WideShapes Go.RowKit Go.Joins Go.Deep

/-- The halfwords that are looked at. -/
abbrev HwR (a : Int) : Prop := Hw a
set_option maxRecDepth 100000 in
theorem hwR_has {a : Int} (h : HwR a) : kHas .i64 a := Hw.has h
def ShrP (a : Int) (it : Bool) (p : Fields × Bool) : Prop := DecP 33 [.int .i64 a, .bool it] p ∧ (p.2 = true → Rd.Reads F2 Rd.narT p.1.scs a 0)
def TlrP (a b : Int) (it : Bool) (p : Fields × Bool) : Prop := DecP 34 [.int .i64 a, .int .i64 b, .bool it] p ∧ (p.2 = true → Rd.Reads F2 Rd.widT p.1.scs a b)
set_option maxRecDepth 100000 in
theorem shoR_any {a : Int} (ha : HwR a) (it : Bool) : ∃ p, ShrP a it p := sho_rr (fun j hj => srd.all j (by rw [sho.len] at hj; exact hj)) ha it
set_option maxRecDepth 100000 in
theorem talR_any {a b : Int} (ha : HwR a) (hb : HwR b) (it : Bool) : ∃ p, TlrP a b it p := tal_rr (fun j hj => trd.all j (by rw [tal.lenQ] at hj; exact hj)) ha hb it

open Classical in
/-- What a halfword is read as. -/
noncomputable def shortR (a : Int) (it : Bool) : Fields × Bool := if h : ∃ p, ShrP a it p then Classical.choose h else (zeroF, false)
open Classical in
/-- What two halfwords are read as. -/
noncomputable def tallR (a b : Int) (it : Bool) : Fields × Bool := if h : ∃ p, TlrP a b it p then Classical.choose h else (zeroF, false)
set_option maxRecDepth 100000 in
theorem shortR_all {a : Int} (ha : HwR a) (it : Bool) : ShrP a it (shortR a it) := by
  unfold shortR
  rw [dif_pos (shoR_any ha it)]
  exact Classical.choose_spec (shoR_any ha it)
set_option maxRecDepth 100000 in
theorem tallR_all {a b : Int} (ha : HwR a) (hb : HwR b) (it : Bool) : TlrP a b it (tallR a b it) := by
  unfold tallR
  rw [dif_pos (talR_any ha hb it)]
  exact Classical.choose_spec (talR_any ha hb it)
set_option maxRecDepth 100000 in
theorem shortR_ok {a : Int} (ha : HwR a) (it : Bool) : DecP 33 [.int .i64 a, .bool it] (shortR a it) := (shortR_all ha it).1
set_option maxRecDepth 100000 in
theorem tallR_ok {a b : Int} (ha : HwR a) (hb : HwR b) (it : Bool) : DecP 34 [.int .i64 a, .int .i64 b, .bool it] (tallR a b it) := (tallR_all ha hb it).1

def pickR (p : Fields × Bool) (n : Int) : Fields × Int × Int := (if p.2 then p.1 else zeroF, if p.2 then n else 0, if p.2 then 0 else 10)
/-- What halfwords are read as: the first instruction, how many halfwords, the error's number. -/
noncomputable def decR : List Int → Bool → Fields × Int × Int
  | [], _ => (zeroF, 0, 2)
  | [a], it => if longR a then (zeroF, 0, 2) else pickR (shortR a it) 1
  | a :: b :: _, it => if longR a then pickR (tallR a b it) 2 else pickR (shortR a it) 1

set_option maxRecDepth 100000 in
theorem decR_one (a : Int) (it : Bool) : decR [a] it = if longR a then (zeroF, 0, 2) else pickR (shortR a it) 1 := rfl
set_option maxRecDepth 100000 in
theorem decR_two (a b : Int) (r : List Int) (it : Bool) : decR (a :: b :: r) it = if longR a then pickR (tallR a b it) 2 else pickR (shortR a it) 1 := rfl

set_option maxRecDepth 100000 in
theorem decR_any (l : List Int) (A : Option Addr) (cap : Nat) (it : Bool) (w : World) (h : IAt w w.heap.size A l) (hl : ∀ a ∈ l, HwR a) (hlen : l.length ≤ maxLen) (hw : Laid w) :
    Calls Tryz.prog 20 #[.slice A l.length cap, .bool it] w fun e w' => RetD (decR l it).1 (decR l it).2.1 (decR l it).2.2 e w w' := by
  match l, h, hl, hlen with
  | [], _, _, _ => exact decR_nil A cap it w
  | a :: r, h, hl, hlen =>
    have ha := hl a (by simp)
    have hL := longR_ans (hwR_has ha)
    have hS := (shortR_ok ha it).ans
    cases hlb : longR a
    · rw [hlb] at hL
      have e : decR (a :: r) it = pickR (shortR a it) 1 := by
        cases r
        · rw [decR_one, hlb]; rfl
        · rw [decR_two, hlb]; rfl
      rw [e]
      exact decR_short a r it A cap w h hlen hw hL _ _ _ _ _ _ _ _ _ _ hS
    · rw [hlb] at hL
      match r, h, hl, hlen with
      | [], h, _, _ =>
        have e : decR [a] it = (zeroF, 0, 2) := by rw [decR_one, hlb]; rfl
        rw [e]
        exact decR_end a it A cap w h hw hL
      | b :: r, h, hl, hlen =>
        have e : decR (a :: b :: r) it = pickR (tallR a b it) 2 := by rw [decR_two, hlb]; rfl
        rw [e]
        exact decR_long a b r it A cap w h hlen hw hL _ _ _ _ _ _ _ _ _ _ (tallR_ok ha (hl b (by simp)) it).ans

set_option maxRecDepth 100000 in
theorem pickR_num {p : Fields × Bool} {n : Int} (h : (pickR p n).2.2 = 0) : (pickR p n).2.1 = n ∧ p.2 = true ∧ (pickR p n).1 = p.1 := by
  unfold pickR at h ⊢
  by_cases hp : p.2 <;> simp [hp] at h ⊢

set_option maxRecDepth 100000 in
/-- It is of one halfword or two, and there are so many. -/
theorem decR_num {l : List Int} {it : Bool} (h : (decR l it).2.2 = 0) : ∃ n : Nat, (decR l it).2.1 = n ∧ 1 ≤ n ∧ n ≤ l.length ∧ n ≤ 2 := by
  match l with
  | [] => exact absurd (show (2 : Int) = 0 from h) (by decide)
  | [a] =>
    rw [decR_one] at h ⊢
    split at h
    · exact absurd (show (2 : Int) = 0 from h) (by decide)
    · rename_i hb
      rw [if_neg hb]
      exact ⟨1, (pickR_num h).1, by omega, by simp, by omega⟩
  | a :: b :: r =>
    rw [decR_two] at h ⊢
    split at h
    · rename_i hb
      rw [if_pos hb]
      exact ⟨2, (pickR_num h).1, by omega, by simp, by omega⟩
    · rename_i hb
      rw [if_neg hb]
      exact ⟨1, (pickR_num h).1, by omega, by simp, by omega⟩
end Go.Proofs.YtnpfihlaocpcfaaGreatDoor
