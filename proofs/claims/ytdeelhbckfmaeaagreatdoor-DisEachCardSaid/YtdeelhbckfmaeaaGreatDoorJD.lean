/- For the seat: texts joined: Shr, Tlr, DecDef, Ins9, KrD, KrE. -/
import Derived.Test.YtdeelhbckfmaeaaGreatDoorJS5
import Derived.Test.YtdeelhbckfmaeaaGreatDoorJT0
import Derived.Test.YtdeelhbckfmaeaaGreatDoorJT1
import Derived.Test.YtdeelhbckfmaeaaGreatDoorJT2
import Derived.Test.YtdeelhbckfmaeaaGreatDoorJT3
import Derived.Test.YtdeelhbckfmaeaaGreatDoorJT4
import Derived.Test.YtdeelhbckfmaeaaGreatDoorJT5
import Derived.Test.YtdeelhbckfmaeaaGreatDoorJT6
import Derived.Test.YtdeelhbckfmaeaaGreatDoorJT7
import Derived.Test.YtdeelhbckfmaeaaGreatDoorJT8
import Derived.Test.YtdeelhbckfmaeaaGreatDoorJT9
import Derived.Test.YtdeelhbckfmaeaaGreatDoorJT10
import Derived.Test.YtdeelhbckfmaeaaGreatDoorJT11
import Derived.Test.YtdeelhbckfmaeaaGreatDoorJC0
import Derived.Deep.RegionHeld3
/- Shr: all cases of the input. -/
namespace Go.Proofs.YtdeelhbckfmaeaaGreatDoor.shr
open Go.Sx
set_option maxRecDepth 100000
theorem all : ∀ j : Nat, j < 94 → sho.atR j = true := by
  intro j hj
  by_cases h : j < 20
  · exact List.all_eq_true.1 w0x0 j (List.mem_range'_1.2 ⟨by omega, by omega⟩)
  by_cases h : j < 44
  · exact List.all_eq_true.1 w0x20 j (List.mem_range'_1.2 ⟨by omega, by omega⟩)
  by_cases h : j < 64
  · exact List.all_eq_true.1 w0x44 j (List.mem_range'_1.2 ⟨by omega, by omega⟩)
  by_cases h : j < 85
  · exact List.all_eq_true.1 w0x64 j (List.mem_range'_1.2 ⟨by omega, by omega⟩)
  by_cases h : j < 90
  · exact List.all_eq_true.1 w0x85 j (List.mem_range'_1.2 ⟨by omega, by omega⟩)
  by_cases h : j < 94
  · exact List.all_eq_true.1 w0x90 j (List.mem_range'_1.2 ⟨by omega, by omega⟩)
  omega
end Go.Proofs.YtdeelhbckfmaeaaGreatDoor.shr
/- Tlr: all cases of the input. -/
namespace Go.Proofs.YtdeelhbckfmaeaaGreatDoor.tlr
open Go.Sx
set_option maxRecDepth 100000
theorem all : ∀ j : Nat, j < 449 → tal.atR j = true := by
  intro j hj
  by_cases h : j < 7
  · exact List.all_eq_true.1 w0x0 j (List.mem_range'_1.2 ⟨by omega, by omega⟩)
  by_cases h : j < 14
  · exact List.all_eq_true.1 w0x7 j (List.mem_range'_1.2 ⟨by omega, by omega⟩)
  by_cases h : j < 15
  · exact List.all_eq_true.1 w0x14 j (List.mem_range'_1.2 ⟨by omega, by omega⟩)
  by_cases h : j < 19
  · exact List.all_eq_true.1 w0x15 j (List.mem_range'_1.2 ⟨by omega, by omega⟩)
  by_cases h : j < 23
  · exact List.all_eq_true.1 w0x19 j (List.mem_range'_1.2 ⟨by omega, by omega⟩)
  by_cases h : j < 27
  · exact List.all_eq_true.1 w0x23 j (List.mem_range'_1.2 ⟨by omega, by omega⟩)
  by_cases h : j < 31
  · exact List.all_eq_true.1 w0x27 j (List.mem_range'_1.2 ⟨by omega, by omega⟩)
  by_cases h : j < 45
  · exact List.all_eq_true.1 w0x31 j (List.mem_range'_1.2 ⟨by omega, by omega⟩)
  by_cases h : j < 59
  · exact List.all_eq_true.1 w0x45 j (List.mem_range'_1.2 ⟨by omega, by omega⟩)
  by_cases h : j < 60
  · exact List.all_eq_true.1 w0x59 j (List.mem_range'_1.2 ⟨by omega, by omega⟩)
  by_cases h : j < 68
  · exact List.all_eq_true.1 w0x60 j (List.mem_range'_1.2 ⟨by omega, by omega⟩)
  by_cases h : j < 69
  · exact List.all_eq_true.1 w0x68 j (List.mem_range'_1.2 ⟨by omega, by omega⟩)
  by_cases h : j < 77
  · exact List.all_eq_true.1 w0x69 j (List.mem_range'_1.2 ⟨by omega, by omega⟩)
  by_cases h : j < 78
  · exact List.all_eq_true.1 w0x77 j (List.mem_range'_1.2 ⟨by omega, by omega⟩)
  by_cases h : j < 86
  · exact List.all_eq_true.1 w0x78 j (List.mem_range'_1.2 ⟨by omega, by omega⟩)
  by_cases h : j < 87
  · exact List.all_eq_true.1 w0x86 j (List.mem_range'_1.2 ⟨by omega, by omega⟩)
  by_cases h : j < 93
  · exact List.all_eq_true.1 w0x87 j (List.mem_range'_1.2 ⟨by omega, by omega⟩)
  by_cases h : j < 95
  · exact List.all_eq_true.1 w0x93 j (List.mem_range'_1.2 ⟨by omega, by omega⟩)
  by_cases h : j < 96
  · exact List.all_eq_true.1 w0x95 j (List.mem_range'_1.2 ⟨by omega, by omega⟩)
  by_cases h : j < 104
  · exact List.all_eq_true.1 w0x96 j (List.mem_range'_1.2 ⟨by omega, by omega⟩)
  by_cases h : j < 105
  · exact List.all_eq_true.1 w0x104 j (List.mem_range'_1.2 ⟨by omega, by omega⟩)
  by_cases h : j < 113
  · exact List.all_eq_true.1 w0x105 j (List.mem_range'_1.2 ⟨by omega, by omega⟩)
  by_cases h : j < 122
  · exact List.all_eq_true.1 w0x113 j (List.mem_range'_1.2 ⟨by omega, by omega⟩)
  by_cases h : j < 131
  · exact List.all_eq_true.1 w0x122 j (List.mem_range'_1.2 ⟨by omega, by omega⟩)
  by_cases h : j < 132
  · exact List.all_eq_true.1 w0x131 j (List.mem_range'_1.2 ⟨by omega, by omega⟩)
  by_cases h : j < 140
  · exact List.all_eq_true.1 w0x132 j (List.mem_range'_1.2 ⟨by omega, by omega⟩)
  by_cases h : j < 141
  · exact List.all_eq_true.1 w0x140 j (List.mem_range'_1.2 ⟨by omega, by omega⟩)
  by_cases h : j < 149
  · exact List.all_eq_true.1 w0x141 j (List.mem_range'_1.2 ⟨by omega, by omega⟩)
  by_cases h : j < 158
  · exact List.all_eq_true.1 w0x149 j (List.mem_range'_1.2 ⟨by omega, by omega⟩)
  by_cases h : j < 166
  · exact List.all_eq_true.1 w0x158 j (List.mem_range'_1.2 ⟨by omega, by omega⟩)
  by_cases h : j < 175
  · exact List.all_eq_true.1 w0x166 j (List.mem_range'_1.2 ⟨by omega, by omega⟩)
  by_cases h : j < 182
  · exact List.all_eq_true.1 w0x175 j (List.mem_range'_1.2 ⟨by omega, by omega⟩)
  by_cases h : j < 190
  · exact List.all_eq_true.1 w0x182 j (List.mem_range'_1.2 ⟨by omega, by omega⟩)
  by_cases h : j < 196
  · exact List.all_eq_true.1 w0x190 j (List.mem_range'_1.2 ⟨by omega, by omega⟩)
  by_cases h : j < 203
  · exact List.all_eq_true.1 w0x196 j (List.mem_range'_1.2 ⟨by omega, by omega⟩)
  by_cases h : j < 204
  · exact List.all_eq_true.1 w0x203 j (List.mem_range'_1.2 ⟨by omega, by omega⟩)
  by_cases h : j < 212
  · exact List.all_eq_true.1 w0x204 j (List.mem_range'_1.2 ⟨by omega, by omega⟩)
  by_cases h : j < 213
  · exact List.all_eq_true.1 w0x212 j (List.mem_range'_1.2 ⟨by omega, by omega⟩)
  by_cases h : j < 221
  · exact List.all_eq_true.1 w0x213 j (List.mem_range'_1.2 ⟨by omega, by omega⟩)
  by_cases h : j < 230
  · exact List.all_eq_true.1 w0x221 j (List.mem_range'_1.2 ⟨by omega, by omega⟩)
  by_cases h : j < 239
  · exact List.all_eq_true.1 w0x230 j (List.mem_range'_1.2 ⟨by omega, by omega⟩)
  by_cases h : j < 240
  · exact List.all_eq_true.1 w0x239 j (List.mem_range'_1.2 ⟨by omega, by omega⟩)
  by_cases h : j < 248
  · exact List.all_eq_true.1 w0x240 j (List.mem_range'_1.2 ⟨by omega, by omega⟩)
  by_cases h : j < 249
  · exact List.all_eq_true.1 w0x248 j (List.mem_range'_1.2 ⟨by omega, by omega⟩)
  by_cases h : j < 257
  · exact List.all_eq_true.1 w0x249 j (List.mem_range'_1.2 ⟨by omega, by omega⟩)
  by_cases h : j < 258
  · exact List.all_eq_true.1 w0x257 j (List.mem_range'_1.2 ⟨by omega, by omega⟩)
  by_cases h : j < 266
  · exact List.all_eq_true.1 w0x258 j (List.mem_range'_1.2 ⟨by omega, by omega⟩)
  by_cases h : j < 267
  · exact List.all_eq_true.1 w0x266 j (List.mem_range'_1.2 ⟨by omega, by omega⟩)
  by_cases h : j < 275
  · exact List.all_eq_true.1 w0x267 j (List.mem_range'_1.2 ⟨by omega, by omega⟩)
  by_cases h : j < 284
  · exact List.all_eq_true.1 w0x275 j (List.mem_range'_1.2 ⟨by omega, by omega⟩)
  by_cases h : j < 293
  · exact List.all_eq_true.1 w0x284 j (List.mem_range'_1.2 ⟨by omega, by omega⟩)
  by_cases h : j < 294
  · exact List.all_eq_true.1 w0x293 j (List.mem_range'_1.2 ⟨by omega, by omega⟩)
  by_cases h : j < 302
  · exact List.all_eq_true.1 w0x294 j (List.mem_range'_1.2 ⟨by omega, by omega⟩)
  by_cases h : j < 303
  · exact List.all_eq_true.1 w0x302 j (List.mem_range'_1.2 ⟨by omega, by omega⟩)
  by_cases h : j < 311
  · exact List.all_eq_true.1 w0x303 j (List.mem_range'_1.2 ⟨by omega, by omega⟩)
  by_cases h : j < 312
  · exact List.all_eq_true.1 w0x311 j (List.mem_range'_1.2 ⟨by omega, by omega⟩)
  by_cases h : j < 320
  · exact List.all_eq_true.1 w0x312 j (List.mem_range'_1.2 ⟨by omega, by omega⟩)
  by_cases h : j < 321
  · exact List.all_eq_true.1 w0x320 j (List.mem_range'_1.2 ⟨by omega, by omega⟩)
  by_cases h : j < 329
  · exact List.all_eq_true.1 w0x321 j (List.mem_range'_1.2 ⟨by omega, by omega⟩)
  by_cases h : j < 338
  · exact List.all_eq_true.1 w0x329 j (List.mem_range'_1.2 ⟨by omega, by omega⟩)
  by_cases h : j < 339
  · exact List.all_eq_true.1 w0x338 j (List.mem_range'_1.2 ⟨by omega, by omega⟩)
  by_cases h : j < 340
  · exact List.all_eq_true.1 w0x339 j (List.mem_range'_1.2 ⟨by omega, by omega⟩)
  by_cases h : j < 341
  · exact List.all_eq_true.1 w0x340 j (List.mem_range'_1.2 ⟨by omega, by omega⟩)
  by_cases h : j < 342
  · exact List.all_eq_true.1 w0x341 j (List.mem_range'_1.2 ⟨by omega, by omega⟩)
  by_cases h : j < 343
  · exact List.all_eq_true.1 w0x342 j (List.mem_range'_1.2 ⟨by omega, by omega⟩)
  by_cases h : j < 344
  · exact List.all_eq_true.1 w0x343 j (List.mem_range'_1.2 ⟨by omega, by omega⟩)
  by_cases h : j < 345
  · exact List.all_eq_true.1 w0x344 j (List.mem_range'_1.2 ⟨by omega, by omega⟩)
  by_cases h : j < 346
  · exact List.all_eq_true.1 w0x345 j (List.mem_range'_1.2 ⟨by omega, by omega⟩)
  by_cases h : j < 347
  · exact List.all_eq_true.1 w0x346 j (List.mem_range'_1.2 ⟨by omega, by omega⟩)
  by_cases h : j < 348
  · exact List.all_eq_true.1 w0x347 j (List.mem_range'_1.2 ⟨by omega, by omega⟩)
  by_cases h : j < 349
  · exact List.all_eq_true.1 w0x348 j (List.mem_range'_1.2 ⟨by omega, by omega⟩)
  by_cases h : j < 350
  · exact List.all_eq_true.1 w0x349 j (List.mem_range'_1.2 ⟨by omega, by omega⟩)
  by_cases h : j < 351
  · exact List.all_eq_true.1 w0x350 j (List.mem_range'_1.2 ⟨by omega, by omega⟩)
  by_cases h : j < 352
  · exact List.all_eq_true.1 w0x351 j (List.mem_range'_1.2 ⟨by omega, by omega⟩)
  by_cases h : j < 353
  · exact List.all_eq_true.1 w0x352 j (List.mem_range'_1.2 ⟨by omega, by omega⟩)
  by_cases h : j < 354
  · exact List.all_eq_true.1 w0x353 j (List.mem_range'_1.2 ⟨by omega, by omega⟩)
  by_cases h : j < 355
  · exact List.all_eq_true.1 w0x354 j (List.mem_range'_1.2 ⟨by omega, by omega⟩)
  by_cases h : j < 356
  · exact List.all_eq_true.1 w0x355 j (List.mem_range'_1.2 ⟨by omega, by omega⟩)
  by_cases h : j < 357
  · exact List.all_eq_true.1 w0x356 j (List.mem_range'_1.2 ⟨by omega, by omega⟩)
  by_cases h : j < 358
  · exact List.all_eq_true.1 w0x357 j (List.mem_range'_1.2 ⟨by omega, by omega⟩)
  by_cases h : j < 359
  · exact List.all_eq_true.1 w0x358 j (List.mem_range'_1.2 ⟨by omega, by omega⟩)
  by_cases h : j < 360
  · exact List.all_eq_true.1 w0x359 j (List.mem_range'_1.2 ⟨by omega, by omega⟩)
  by_cases h : j < 361
  · exact List.all_eq_true.1 w0x360 j (List.mem_range'_1.2 ⟨by omega, by omega⟩)
  by_cases h : j < 362
  · exact List.all_eq_true.1 w0x361 j (List.mem_range'_1.2 ⟨by omega, by omega⟩)
  by_cases h : j < 363
  · exact List.all_eq_true.1 w0x362 j (List.mem_range'_1.2 ⟨by omega, by omega⟩)
  by_cases h : j < 364
  · exact List.all_eq_true.1 w0x363 j (List.mem_range'_1.2 ⟨by omega, by omega⟩)
  by_cases h : j < 365
  · exact List.all_eq_true.1 w0x364 j (List.mem_range'_1.2 ⟨by omega, by omega⟩)
  by_cases h : j < 366
  · exact List.all_eq_true.1 w0x365 j (List.mem_range'_1.2 ⟨by omega, by omega⟩)
  by_cases h : j < 367
  · exact List.all_eq_true.1 w0x366 j (List.mem_range'_1.2 ⟨by omega, by omega⟩)
  by_cases h : j < 368
  · exact List.all_eq_true.1 w0x367 j (List.mem_range'_1.2 ⟨by omega, by omega⟩)
  by_cases h : j < 369
  · exact List.all_eq_true.1 w0x368 j (List.mem_range'_1.2 ⟨by omega, by omega⟩)
  by_cases h : j < 370
  · exact List.all_eq_true.1 w0x369 j (List.mem_range'_1.2 ⟨by omega, by omega⟩)
  by_cases h : j < 371
  · exact List.all_eq_true.1 w0x370 j (List.mem_range'_1.2 ⟨by omega, by omega⟩)
  by_cases h : j < 372
  · exact List.all_eq_true.1 w0x371 j (List.mem_range'_1.2 ⟨by omega, by omega⟩)
  by_cases h : j < 373
  · exact List.all_eq_true.1 w0x372 j (List.mem_range'_1.2 ⟨by omega, by omega⟩)
  by_cases h : j < 374
  · exact List.all_eq_true.1 w0x373 j (List.mem_range'_1.2 ⟨by omega, by omega⟩)
  by_cases h : j < 375
  · exact List.all_eq_true.1 w0x374 j (List.mem_range'_1.2 ⟨by omega, by omega⟩)
  by_cases h : j < 376
  · exact List.all_eq_true.1 w0x375 j (List.mem_range'_1.2 ⟨by omega, by omega⟩)
  by_cases h : j < 377
  · exact List.all_eq_true.1 w0x376 j (List.mem_range'_1.2 ⟨by omega, by omega⟩)
  by_cases h : j < 378
  · exact List.all_eq_true.1 w0x377 j (List.mem_range'_1.2 ⟨by omega, by omega⟩)
  by_cases h : j < 379
  · exact List.all_eq_true.1 w0x378 j (List.mem_range'_1.2 ⟨by omega, by omega⟩)
  by_cases h : j < 380
  · exact List.all_eq_true.1 w0x379 j (List.mem_range'_1.2 ⟨by omega, by omega⟩)
  by_cases h : j < 381
  · exact List.all_eq_true.1 w0x380 j (List.mem_range'_1.2 ⟨by omega, by omega⟩)
  by_cases h : j < 382
  · exact List.all_eq_true.1 w0x381 j (List.mem_range'_1.2 ⟨by omega, by omega⟩)
  by_cases h : j < 383
  · exact List.all_eq_true.1 w0x382 j (List.mem_range'_1.2 ⟨by omega, by omega⟩)
  by_cases h : j < 384
  · exact List.all_eq_true.1 w0x383 j (List.mem_range'_1.2 ⟨by omega, by omega⟩)
  by_cases h : j < 385
  · exact List.all_eq_true.1 w0x384 j (List.mem_range'_1.2 ⟨by omega, by omega⟩)
  by_cases h : j < 386
  · exact List.all_eq_true.1 w0x385 j (List.mem_range'_1.2 ⟨by omega, by omega⟩)
  by_cases h : j < 387
  · exact List.all_eq_true.1 w0x386 j (List.mem_range'_1.2 ⟨by omega, by omega⟩)
  by_cases h : j < 388
  · exact List.all_eq_true.1 w0x387 j (List.mem_range'_1.2 ⟨by omega, by omega⟩)
  by_cases h : j < 389
  · exact List.all_eq_true.1 w0x388 j (List.mem_range'_1.2 ⟨by omega, by omega⟩)
  by_cases h : j < 390
  · exact List.all_eq_true.1 w0x389 j (List.mem_range'_1.2 ⟨by omega, by omega⟩)
  by_cases h : j < 391
  · exact List.all_eq_true.1 w0x390 j (List.mem_range'_1.2 ⟨by omega, by omega⟩)
  by_cases h : j < 392
  · exact List.all_eq_true.1 w0x391 j (List.mem_range'_1.2 ⟨by omega, by omega⟩)
  by_cases h : j < 393
  · exact List.all_eq_true.1 w0x392 j (List.mem_range'_1.2 ⟨by omega, by omega⟩)
  by_cases h : j < 394
  · exact List.all_eq_true.1 w0x393 j (List.mem_range'_1.2 ⟨by omega, by omega⟩)
  by_cases h : j < 395
  · exact List.all_eq_true.1 w0x394 j (List.mem_range'_1.2 ⟨by omega, by omega⟩)
  by_cases h : j < 396
  · exact List.all_eq_true.1 w0x395 j (List.mem_range'_1.2 ⟨by omega, by omega⟩)
  by_cases h : j < 397
  · exact List.all_eq_true.1 w0x396 j (List.mem_range'_1.2 ⟨by omega, by omega⟩)
  by_cases h : j < 398
  · exact List.all_eq_true.1 w0x397 j (List.mem_range'_1.2 ⟨by omega, by omega⟩)
  by_cases h : j < 399
  · exact List.all_eq_true.1 w0x398 j (List.mem_range'_1.2 ⟨by omega, by omega⟩)
  by_cases h : j < 400
  · exact List.all_eq_true.1 w0x399 j (List.mem_range'_1.2 ⟨by omega, by omega⟩)
  by_cases h : j < 401
  · exact List.all_eq_true.1 w0x400 j (List.mem_range'_1.2 ⟨by omega, by omega⟩)
  by_cases h : j < 402
  · exact List.all_eq_true.1 w0x401 j (List.mem_range'_1.2 ⟨by omega, by omega⟩)
  by_cases h : j < 403
  · exact List.all_eq_true.1 w0x402 j (List.mem_range'_1.2 ⟨by omega, by omega⟩)
  by_cases h : j < 404
  · exact List.all_eq_true.1 w0x403 j (List.mem_range'_1.2 ⟨by omega, by omega⟩)
  by_cases h : j < 405
  · exact List.all_eq_true.1 w0x404 j (List.mem_range'_1.2 ⟨by omega, by omega⟩)
  by_cases h : j < 406
  · exact List.all_eq_true.1 w0x405 j (List.mem_range'_1.2 ⟨by omega, by omega⟩)
  by_cases h : j < 407
  · exact List.all_eq_true.1 w0x406 j (List.mem_range'_1.2 ⟨by omega, by omega⟩)
  by_cases h : j < 408
  · exact List.all_eq_true.1 w0x407 j (List.mem_range'_1.2 ⟨by omega, by omega⟩)
  by_cases h : j < 409
  · exact List.all_eq_true.1 w0x408 j (List.mem_range'_1.2 ⟨by omega, by omega⟩)
  by_cases h : j < 410
  · exact List.all_eq_true.1 w0x409 j (List.mem_range'_1.2 ⟨by omega, by omega⟩)
  by_cases h : j < 411
  · exact List.all_eq_true.1 w0x410 j (List.mem_range'_1.2 ⟨by omega, by omega⟩)
  by_cases h : j < 412
  · exact List.all_eq_true.1 w0x411 j (List.mem_range'_1.2 ⟨by omega, by omega⟩)
  by_cases h : j < 413
  · exact List.all_eq_true.1 w0x412 j (List.mem_range'_1.2 ⟨by omega, by omega⟩)
  by_cases h : j < 414
  · exact List.all_eq_true.1 w0x413 j (List.mem_range'_1.2 ⟨by omega, by omega⟩)
  by_cases h : j < 415
  · exact List.all_eq_true.1 w0x414 j (List.mem_range'_1.2 ⟨by omega, by omega⟩)
  by_cases h : j < 416
  · exact List.all_eq_true.1 w0x415 j (List.mem_range'_1.2 ⟨by omega, by omega⟩)
  by_cases h : j < 417
  · exact List.all_eq_true.1 w0x416 j (List.mem_range'_1.2 ⟨by omega, by omega⟩)
  by_cases h : j < 418
  · exact List.all_eq_true.1 w0x417 j (List.mem_range'_1.2 ⟨by omega, by omega⟩)
  by_cases h : j < 419
  · exact List.all_eq_true.1 w0x418 j (List.mem_range'_1.2 ⟨by omega, by omega⟩)
  by_cases h : j < 420
  · exact List.all_eq_true.1 w0x419 j (List.mem_range'_1.2 ⟨by omega, by omega⟩)
  by_cases h : j < 421
  · exact List.all_eq_true.1 w0x420 j (List.mem_range'_1.2 ⟨by omega, by omega⟩)
  by_cases h : j < 422
  · exact List.all_eq_true.1 w0x421 j (List.mem_range'_1.2 ⟨by omega, by omega⟩)
  by_cases h : j < 423
  · exact List.all_eq_true.1 w0x422 j (List.mem_range'_1.2 ⟨by omega, by omega⟩)
  by_cases h : j < 424
  · exact List.all_eq_true.1 w0x423 j (List.mem_range'_1.2 ⟨by omega, by omega⟩)
  by_cases h : j < 425
  · exact List.all_eq_true.1 w0x424 j (List.mem_range'_1.2 ⟨by omega, by omega⟩)
  by_cases h : j < 426
  · exact List.all_eq_true.1 w0x425 j (List.mem_range'_1.2 ⟨by omega, by omega⟩)
  by_cases h : j < 427
  · exact List.all_eq_true.1 w0x426 j (List.mem_range'_1.2 ⟨by omega, by omega⟩)
  by_cases h : j < 428
  · exact List.all_eq_true.1 w0x427 j (List.mem_range'_1.2 ⟨by omega, by omega⟩)
  by_cases h : j < 431
  · exact List.all_eq_true.1 w0x428 j (List.mem_range'_1.2 ⟨by omega, by omega⟩)
  by_cases h : j < 438
  · exact List.all_eq_true.1 w0x431 j (List.mem_range'_1.2 ⟨by omega, by omega⟩)
  by_cases h : j < 444
  · exact List.all_eq_true.1 w0x438 j (List.mem_range'_1.2 ⟨by omega, by omega⟩)
  exact List.all_eq_true.1 w0x444 j (List.mem_range'_1.2 ⟨by omega, by omega⟩)
end Go.Proofs.YtdeelhbckfmaeaaGreatDoor.tlr
/- For the seat: decode.Decode: what it answers at any halfwords. -/
namespace Go.Proofs.YtdeelhbckfmaeaaGreatDoor
open Go.Sx Go.ChangeShapes Go.WideShapes Go.RowKit Go.Joins Go.Deep

namespace lng
def and (n : Int) : Tm := .op2 (.and .i64) (.var 0) (.num n)
def longT : Tm := .op2 .band (.op2 .eq (and 57344) (.num 57344)) (.op1 .not (.op2 .eq (and 6144) (.num 0)))
def kn : Kn := ⟨[], [], [], [], [0]⟩
set_option maxRecDepth 100000 in
theorem run : pxIs sg (.bool longT) (callT cx noS (run cx noS 400) 86 [.int .i64 (.var 0)] [] (.bit true)) kn = true := by kernel_rfl
end lng

/-- Does a halfword begin an instruction of two? -/
def longB (a : Int) : Bool := (lng.longT.den (envOf F [.int a])).asBool

set_option maxRecDepth 100000 in
theorem long_ans {a : Int} (ha : kHas .i64 a) : Ans 86 [.int .i64 a] (.bool (longB a)) := by
  have S : Sats (envOf F [.int a]) lng.kn := by
    refine Sats.start (one_vars (s := .int a) ha) _ ?_
    intro i hi
    simp only [List.mem_cons, List.not_mem_nil, or_false] at hi
    subst hi
    exact ⟨_, rfl⟩
  obtain ⟨x', h1, h2⟩ := pxIs_ok (sg_ok' F_signs) _ _ S lng.run
  refine ans_of (call_ok (ρ := envOf F [.int a]) cxok (noS_ok _ _) (noS_body _) rfl h1) (by intro v hv; simp at hv; subst hv; rfl) rfl ?_
  intro ι
  rw [h2]
  rfl

abbrev zeroF : Fields := ⟨0, 0, 0, 0, 0, 0, 0, 0, false⟩
set_option maxRecDepth 100000 in
theorem zeroF_ok : zeroF.Ok := ⟨zero_has, zero_has, zero_has, zero_has, zero_has, zero_has, zero_has, zero_has⟩

/-- An instruction lies in a block. -/
def InsAt (W : World) (b : Nat) (x : Fields) : Prop := (W.cell? ⟨b, 0, none⟩ = some (.int .i64 x.x0) ∧ W.cell? ⟨b, 1, none⟩ = some (.int .i64 x.x1) ∧ W.cell? ⟨b, 2, none⟩ = some (.int .i64 x.x2) ∧ W.cell? ⟨b, 3, none⟩ = some (.int .i64 x.x3) ∧ W.cell? ⟨b, 4, none⟩ = some (.int .i64 x.x4) ∧ W.cell? ⟨b, 5, none⟩ = some (.int .i64 x.x5) ∧ W.cell? ⟨b, 6, none⟩ = some (.int .i64 x.x6) ∧ W.cell? ⟨b, 7, none⟩ = some (.int .i64 x.x7) ∧ W.cell? ⟨b, 8, none⟩ = some (.bool x.b)) ∧ (W.frozen? ⟨b, 0, none⟩ = false ∧ W.frozen? ⟨b, 1, none⟩ = false ∧ W.frozen? ⟨b, 2, none⟩ = false ∧ W.frozen? ⟨b, 3, none⟩ = false ∧ W.frozen? ⟨b, 4, none⟩ = false ∧ W.frozen? ⟨b, 5, none⟩ = false ∧ W.frozen? ⟨b, 6, none⟩ = false ∧ W.frozen? ⟨b, 7, none⟩ = false ∧ W.frozen? ⟨b, 8, none⟩ = false)
abbrev Fields.cells (x : Fields) : Array Value := #[.int .i64 x.x0, .int .i64 x.x1, .int .i64 x.x2, .int .i64 x.x3, .int .i64 x.x4, .int .i64 x.x5, .int .i64 x.x6, .int .i64 x.x7, .bool x.b]
set_option maxRecDepth 100000 in
theorem InsAt.new (W : World) (x : Fields) (t : TypeId) : InsAt (W.alloc (.cells x.cells t)) W.heap.size x := by
  have h : (W.alloc (.cells x.cells t)).heap[W.heap.size]? = some (.cells x.cells t (0, 0)) := heap_alloc_new W _
  have c : ∀ o, (W.alloc (.cells x.cells t)).cell? ⟨W.heap.size, o, none⟩ = x.cells[o]? := fun o => by simp only [World.cell?, h]; rfl
  have f : ∀ o, (W.alloc (.cells x.cells t)).frozen? ⟨W.heap.size, o, none⟩ = false := fun o => by simp only [World.frozen?, h]; simp
  exact ⟨⟨by rw [c]; rfl, by rw [c]; rfl, by rw [c]; rfl, by rw [c]; rfl, by rw [c]; rfl, by rw [c]; rfl, by rw [c]; rfl, by rw [c]; rfl, by rw [c]; rfl⟩, f 0, f 1, f 2, f 3, f 4, f 5, f 6, f 7, f 8⟩
set_option maxRecDepth 100000 in
theorem InsAt.drew {W : World} {b : Nat} {x : Fields} (h : InsAt W b x) : InsAt W.drew b x := h
set_option maxRecDepth 100000 in
theorem InsAt.below {W W' : World} {b B : Nat} {x : Fields} (h : InsAt W b x) (hb : Below B W W') (hB : b < B) : InsAt W' b x := by
  unfold InsAt at h ⊢
  have e := fun o => hb.cell (p := ⟨b, o, none⟩) hB
  have f := fun o => hb.frozen (p := ⟨b, o, none⟩) hB
  simp only [e, f]
  exact h

set_option maxRecDepth 100000 in
/-- Behind an instruction's store other cells are as they were. -/
theorem far9 {W : World} {b g : Nat} (h : b ≠ g) (o : Nat) (v0 v1 v2 v3 v4 v5 v6 v7 v8 : Value) : (((((((((W.setCell ⟨b, 0, none⟩ v0).setCell ⟨b, 1, none⟩ v1).setCell ⟨b, 2, none⟩ v2).setCell ⟨b, 3, none⟩ v3).setCell ⟨b, 4, none⟩ v4).setCell ⟨b, 5, none⟩ v5).setCell ⟨b, 6, none⟩ v6).setCell ⟨b, 7, none⟩ v7).setCell ⟨b, 8, none⟩ v8).cell? ⟨g, o, none⟩ = W.cell? ⟨g, o, none⟩ := by
  have e : ∀ (w : World) (k : Nat) (v : Value), (w.setCell ⟨b, k, none⟩ v).cell? ⟨g, o, none⟩ = w.cell? ⟨g, o, none⟩ := fun w k v => World.cell?_setCell_far w _ _ v h
  rw [e, e, e, e, e, e, e, e, e]

/-- The answer of Decode: the instruction, how many halfwords, the error's number. -/
def RetD (x : Fields) (n e : Int) (en : Ending) (w w' : World) : Prop := en = .returned (.tuple #[x.val, .int .i64 n, .int .i64 e]) ∧ Below w.heap.size w w'

set_option maxRecDepth 100000 in
theorem bcells {W w1 : World} {B : Nat} (hb : Below B W w1) : (∀ b o, b < B → w1.cell? ⟨b, o, none⟩ = W.cell? ⟨b, o, none⟩) ∧ (∀ b o, b < B → w1.frozen? ⟨b, o, none⟩ = W.frozen? ⟨b, o, none⟩) :=
  ⟨fun b o h => hb.cell (p := ⟨b, o, none⟩) h, fun b o h => hb.frozen (p := ⟨b, o, none⟩) h⟩

set_option maxRecDepth 100000 in
theorem dec_nil (A : Option Addr) (cap : Nat) (it : Bool) (w : World) : Calls Tryz.prog 51 #[.slice A 0 cap, .bool it] w fun e w' => RetD zeroF 0 2 e w w' := by
  go_enter Tryz.func51, Tryz.ntmps51
  go_wp2_with fail
  exact bodyPost_ret (v := .tuple #[.agg #[.int .i64 0, .int .i64 0, .int .i64 0, .int .i64 0, .int .i64 0, .int .i64 0, .int .i64 0, .int .i64 0, .bool false], .int .i64 0, .int .i64 2]) (by simp [results, Tryz.results51, go_sem]) rfl ⟨rfl, (Below.refl _ _).alloc (Nat.le_refl _) _⟩

set_option maxRecDepth 100000 in
set_option maxHeartbeats 1000000 in
theorem dec_short (a : Int) (r : List Int) (it : Bool) (A : Option Addr) (cap : Nat) (w : World) (h : IAt w w.heap.size A (a :: r)) (hlen : (a :: r).length ≤ maxLen) (hw : Laid w)
    (hL : Ans 86 [.int .i64 a] (.bool false)) (x0 x1 x2 x3 x4 x5 x6 x7 : Int) (xb ok : Bool)
    (hS : Ans 87 [.int .i64 a, .bool it] (.tuple #[.agg #[.int .i64 x0, .int .i64 x1, .int .i64 x2, .int .i64 x3, .int .i64 x4, .int .i64 x5, .int .i64 x6, .int .i64 x7, .bool xb], .bool ok])) :
    Calls Tryz.prog 51 #[.slice A (a :: r).length cap, .bool it] w fun e w' => RetD (if ok then ⟨x0, x1, x2, x3, x4, x5, x6, x7, xb⟩ else zeroF) (if ok then 1 else 0) (if ok then 0 else 10) e w w' := by
  obtain ⟨g, off, rfl, hg, hc⟩ := h.at_ (k := 0) (by simp)
  simp only [List.getElem_cons_zero, Nat.add_zero] at hc
  unfold maxLen at hlen
  have hn0 : 0 < (a :: r).length := by simp
  clear h
  generalize (a :: r).length = n at *
  have lay : ∀ w1 : World, Below w.heap.size w w1 → Laid w1 := fun w1 hb => laid_below hw hb
  have b0 : Below w.heap.size w (w.alloc (.cells zeroF.cells 30)) := (Below.refl _ _).alloc (Nat.le_refl _) _
  have i0 : InsAt (w.alloc (.cells zeroF.cells 30)) w.heap.size zeroF := InsAt.new _ _ _
  have IZ := Lib.hid i0
  clear i0
  go_enter Tryz.func51, Tryz.ntmps51
  go_wp2_with fail
  ((with_reducible refine (hL.go (lay _ b0)).mono ?_); rintro e w1 ⟨rfl, hb1⟩)
  have c1 := b0.trans (hb1.mono (by simp))
  have i1 : Hid (InsAt w1 w.heap.size zeroF) := Lib.hid (IZ.out.below hb1 (by simp))
  clear IZ
  have hc1 : w1.cell? ⟨g, off, none⟩ = some (.int .i64 a) := (c1.cell (p := ⟨g, off, none⟩) hg).trans hc
  go_wp2_with fail
  ((with_reducible refine (hS.go (lay _ c1)).mono ?_); rintro e w2 ⟨rfl, hb2⟩)
  have c2 := c1.trans (hb2.mono c1.size)
  have z1 : w.heap.size < w1.heap.size := by have := hb1.size; simp at this; omega
  have i2 : Hid (InsAt w2 w.heap.size zeroF) := Lib.hid (i1.out.below hb2 z1)
  clear i1
  have hc2 : w2.cell? ⟨g, off, none⟩ = some (.int .i64 a) := (c2.cell (p := ⟨g, off, none⟩) hg).trans hc
  have hg2 : g < w2.heap.size := Nat.lt_of_lt_of_le hg c2.size
  have z2 : w.heap.size < w2.heap.size := Nat.lt_of_lt_of_le z1 hb2.size
  go_wp2_with fail
  have b3 : Below w.heap.size w (w2.alloc (.cells (Fields.cells ⟨x0, x1, x2, x3, x4, x5, x6, x7, xb⟩) 30)) := c2.alloc c2.size _
  have bb : Below w2.heap.size w2 (w2.alloc (.cells (Fields.cells ⟨x0, x1, x2, x3, x4, x5, x6, x7, xb⟩) 30)) := (Below.refl _ _).alloc (Nat.le_refl _) _
  ((with_reducible refine (hL.go (lay _ b3)).mono ?_); rintro e w3 ⟨rfl, hb3⟩)
  have c3 := b3.trans (hb3.mono b3.size)
  have i3 : InsAt w3 w.heap.size zeroF := (i2.out.below bb z2).below hb3 (by simp; omega)
  have j3 : InsAt w3 w2.heap.size ⟨x0, x1, x2, x3, x4, x5, x6, x7, xb⟩ := (InsAt.new _ _ _).below hb3 (by simp)
  have hz3 : w2.heap.size < w3.heap.size := by have := hb3.size; simp at this; omega
  clear i2 bb b0 hc hc1 hc2 hL hS lay
  obtain ⟨⟨p0, p1, p2, p3, p4, p5, p6, p7, p8⟩, q0, q1, q2, q3, q4, q5, q6, q7, q8⟩ := i3
  obtain ⟨⟨r0, r1, r2, r3, r4, r5, r6, r7, r8⟩, _⟩ := j3
  simp only at p0 p1 p2 p3 p4 p5 p6 p7 p8
  simp only at r0 r1 r2 r3 r4 r5 r6 r7 r8
  have hne : ¬ w.heap.size = w2.heap.size := by omega
  cases ok
  · go_wp2_with fail
    exact bodyPost_ret (v := .tuple #[.agg #[.int .i64 0, .int .i64 0, .int .i64 0, .int .i64 0, .int .i64 0, .int .i64 0, .int .i64 0, .int .i64 0, .bool false], .int .i64 0, .int .i64 10]) (by simp [results, Tryz.results51, go_sem, p0, p1, p2, p3, p4, p5, p6, p7, p8]) rfl ⟨rfl, (((((((((c3).setCell (Nat.le_refl _) _).setCell (Nat.le_refl _) _).setCell (Nat.le_refl _) _).setCell (Nat.le_refl _) _).setCell (Nat.le_refl _) _).setCell (Nat.le_refl _) _).setCell (Nat.le_refl _) _).setCell (Nat.le_refl _) _).setCell (Nat.le_refl _) _⟩
  · go_wp2_with fail
    exact bodyPost_ret (v := .tuple #[.agg #[.int .i64 x0, .int .i64 x1, .int .i64 x2, .int .i64 x3, .int .i64 x4, .int .i64 x5, .int .i64 x6, .int .i64 x7, .bool xb], .int .i64 1, .int .i64 0]) (by simp [results, Tryz.results51, go_sem, p0, p1, p2, p3, p4, p5, p6, p7, p8]) rfl ⟨rfl, (((((((((c3).setCell (Nat.le_refl _) _).setCell (Nat.le_refl _) _).setCell (Nat.le_refl _) _).setCell (Nat.le_refl _) _).setCell (Nat.le_refl _) _).setCell (Nat.le_refl _) _).setCell (Nat.le_refl _) _).setCell (Nat.le_refl _) _).setCell (Nat.le_refl _) _⟩

set_option maxRecDepth 100000 in
set_option maxHeartbeats 1000000 in
theorem dec_end (a : Int) (it : Bool) (A : Option Addr) (cap : Nat) (w : World) (h : IAt w w.heap.size A [a]) (hw : Laid w) (hL : Ans 86 [.int .i64 a] (.bool true)) :
    Calls Tryz.prog 51 #[.slice A 1 cap, .bool it] w fun e w' => RetD zeroF 0 2 e w w' := by
  obtain ⟨g, off, rfl, hg, hc⟩ := h.at_ (k := 0) (by simp)
  simp only [List.getElem_cons_zero, Nat.add_zero] at hc
  clear h
  have b0 : Below w.heap.size w (w.alloc (.cells zeroF.cells 30)) := (Below.refl _ _).alloc (Nat.le_refl _) _
  have i0 : InsAt (w.alloc (.cells zeroF.cells 30)) w.heap.size zeroF := InsAt.new _ _ _
  have IZ := Lib.hid i0
  clear i0
  go_enter Tryz.func51, Tryz.ntmps51
  go_wp2_with fail
  ((with_reducible refine (hL.go (laid_below hw b0)).mono ?_); rintro e w1 ⟨rfl, hb1⟩)
  have c1 := b0.trans (hb1.mono (by simp))
  obtain ⟨⟨p0, p1, p2, p3, p4, p5, p6, p7, p8⟩, q0, q1, q2, q3, q4, q5, q6, q7, q8⟩ := IZ.out.below hb1 (by simp)
  simp only at p0 p1 p2 p3 p4 p5 p6 p7 p8
  clear IZ hL b0
  go_wp2_with fail
  exact bodyPost_ret (v := .tuple #[.agg #[.int .i64 0, .int .i64 0, .int .i64 0, .int .i64 0, .int .i64 0, .int .i64 0, .int .i64 0, .int .i64 0, .bool false], .int .i64 0, .int .i64 2]) (by simp [results, Tryz.results51, go_sem, p0, p1, p2, p3, p4, p5, p6, p7, p8]) rfl ⟨rfl, ((((((((c1.setCell (Nat.le_refl _) _).setCell (Nat.le_refl _) _).setCell (Nat.le_refl _) _).setCell (Nat.le_refl _) _).setCell (Nat.le_refl _) _).setCell (Nat.le_refl _) _).setCell (Nat.le_refl _) _).setCell (Nat.le_refl _) _).setCell (Nat.le_refl _) _⟩

set_option maxRecDepth 100000 in
set_option maxHeartbeats 2000000 in
theorem dec_long (a b : Int) (r : List Int) (it : Bool) (A : Option Addr) (cap : Nat) (w : World) (h : IAt w w.heap.size A (a :: b :: r)) (hlen : (a :: b :: r).length ≤ maxLen) (hw : Laid w)
    (hL : Ans 86 [.int .i64 a] (.bool true)) (x0 x1 x2 x3 x4 x5 x6 x7 : Int) (xb ok : Bool)
    (hS : Ans 87 [.int .i64 a, .bool it] (.tuple #[.agg #[.int .i64 x0, .int .i64 x1, .int .i64 x2, .int .i64 x3, .int .i64 x4, .int .i64 x5, .int .i64 x6, .int .i64 x7, .bool xb], .bool ok]))
    (y0 y1 y2 y3 y4 y5 y6 y7 : Int) (yb : Bool) (yk : Bool)
    (hT : Ans 88 [.int .i64 a, .int .i64 b, .bool it] (.tuple #[.agg #[.int .i64 y0, .int .i64 y1, .int .i64 y2, .int .i64 y3, .int .i64 y4, .int .i64 y5, .int .i64 y6, .int .i64 y7, .bool yb], .bool yk])) :
    Calls Tryz.prog 51 #[.slice A (a :: b :: r).length cap, .bool it] w fun e w' => RetD (if yk then ⟨y0, y1, y2, y3, y4, y5, y6, y7, yb⟩ else zeroF) (if yk then 2 else 0) (if yk then 0 else 10) e w w' := by
  obtain ⟨g, off, rfl, hg, hc⟩ := h.at_ (k := 0) (by simp)
  obtain ⟨g', off', hA, hg', hd⟩ := h.at_ (k := 1) (by simp)
  simp only [Option.some.injEq, Addr.mk.injEq, and_true] at hA
  obtain ⟨rfl, rfl⟩ := hA
  simp only [List.getElem_cons_zero, Nat.add_zero] at hc
  simp only [List.getElem_cons_succ, List.getElem_cons_zero] at hd
  unfold maxLen at hlen
  have hn0 : 2 ≤ (a :: b :: r).length := by simp
  clear h hg'
  generalize (a :: b :: r).length = n at *
  have lay : ∀ w1 : World, Below w.heap.size w w1 → Laid w1 := fun w1 hb => laid_below hw hb
  have b0 : Below w.heap.size w (w.alloc (.cells zeroF.cells 30)) := (Below.refl _ _).alloc (Nat.le_refl _) _
  have i0 : InsAt (w.alloc (.cells zeroF.cells 30)) w.heap.size zeroF := InsAt.new _ _ _
  have IZ := Lib.hid i0
  clear i0
  have hlt2 : decide ((n : Int) < 2) = false := decide_eq_false (by omega)
  have h1n : (1 : Int) < (n : Int) := by omega
  go_enter Tryz.func51, Tryz.ntmps51
  go_wp2_with fail
  ((with_reducible refine (hL.go (lay _ b0)).mono ?_); rintro e w1 ⟨rfl, hb1⟩)
  have c1 := b0.trans (hb1.mono (by simp))
  have i1 : Hid (InsAt w1 w.heap.size zeroF) := Lib.hid (IZ.out.below hb1 (by simp))
  clear IZ
  have hc1 : w1.cell? ⟨g, off, none⟩ = some (.int .i64 a) := (c1.cell (p := ⟨g, off, none⟩) hg).trans hc
  go_wp2_with fail
  ((with_reducible refine (hS.go (lay _ c1)).mono ?_); rintro e w2 ⟨rfl, hb2⟩)
  have c2 := c1.trans (hb2.mono c1.size)
  have z1 : w.heap.size < w1.heap.size := by have := hb1.size; simp at this; omega
  have i2 : Hid (InsAt w2 w.heap.size zeroF) := Lib.hid (i1.out.below hb2 z1)
  clear i1
  have hc2 : w2.cell? ⟨g, off, none⟩ = some (.int .i64 a) := (c2.cell (p := ⟨g, off, none⟩) hg).trans hc
  have hg2 : g < w2.heap.size := Nat.lt_of_lt_of_le hg c2.size
  have z2 : w.heap.size < w2.heap.size := Nat.lt_of_lt_of_le z1 hb2.size
  clear hc1
  go_wp2_with fail
  have b3 : Below w.heap.size w (w2.alloc (.cells (Fields.cells ⟨x0, x1, x2, x3, x4, x5, x6, x7, xb⟩) 30)) := c2.alloc c2.size _
  have bb : Below w2.heap.size w2 (w2.alloc (.cells (Fields.cells ⟨x0, x1, x2, x3, x4, x5, x6, x7, xb⟩) 30)) := (Below.refl _ _).alloc (Nat.le_refl _) _
  ((with_reducible refine (hL.go (lay _ b3)).mono ?_); rintro e w3 ⟨rfl, hb3⟩)
  have c3 := b3.trans (hb3.mono b3.size)
  have i3 : Hid (InsAt w3 w.heap.size zeroF) := Lib.hid ((i2.out.below bb z2).below hb3 (by simp; omega))
  have j3 : Hid (InsAt w3 w2.heap.size ⟨x0, x1, x2, x3, x4, x5, x6, x7, xb⟩) := Lib.hid ((InsAt.new _ _ _).below hb3 (by simp))
  have hz3 : w2.heap.size < w3.heap.size := by have := hb3.size; simp at this; omega
  have hc3 : w3.cell? ⟨g, off, none⟩ = some (.int .i64 a) := (c3.cell (p := ⟨g, off, none⟩) hg).trans hc
  have hd3 : w3.cell? ⟨g, off + 1, none⟩ = some (.int .i64 b) := (c3.cell (p := ⟨g, off + 1, none⟩) hg).trans hd
  clear i2 bb b0 hc2
  go_wp2_with fail
  have hT' := hT.go (lay _ c3.drew)
  have hg3 : g < w3.drew.heap.size := Nat.lt_of_lt_of_le hg c3.size
  have z23 : w2.heap.size < w3.drew.heap.size := hz3
  have z03 : w.heap.size < w3.drew.heap.size := Nat.lt_trans z2 hz3
  have nb : w2.heap.size ≠ g := by omega
  clear hL hS
  go_region_held3 (fun w' => w'.cell? ⟨g, off, none⟩ = some (.int .i64 a) ∧ w'.cell? ⟨g, off + 1, none⟩ = some (.int .i64 b))
    (first
      | (with_reducible exact ⟨hc4, hd4⟩)
      | (with_reducible exact ⟨(far9 nb _ _ _ _ _ _ _ _ _ _).trans hc4, (far9 nb _ _ _ _ _ _ _ _ _ _).trans hd4⟩)
      | go_keep)
    (first
      | (go_at_call 88; refine hT'.mono ?_; rintro e w4 ⟨rfl, hb4⟩; obtain ⟨⟨r0, r1, r2, r3, r4, r5, r6, r7, r8⟩, s0, s1, s2, s3, s4, s5, s6, s7, s8⟩ := j3.out.drew.below hb4 z23; have hc4 := (hb4.cell (p := ⟨g, off, none⟩) hg3).trans hc3; have hd4 := (hb4.cell (p := ⟨g, off + 1, none⟩) hg3).trans hd3))
  obtain ⟨⟨p0, p1, p2, p3, p4, p5, p6, p7, p8⟩, q0, q1, q2, q3, q4, q5, q6, q7, q8⟩ := i3.out.drew.below hb4 z03
  simp only at p0 p1 p2 p3 p4 p5 p6 p7 p8
  have c4 := c3.drew.trans (hb4.mono c3.size)
  have hne : ¬ w.heap.size = w2.heap.size := by omega
  have hne' : ¬ w2.heap.size = w.heap.size := by omega
  clear i3 j3 hc3 hd3 hT hT' b3 hb3 hb2 hb1
  cases yk
  · go_wp2_with fail
    exact bodyPost_ret (v := .tuple #[.agg #[.int .i64 0, .int .i64 0, .int .i64 0, .int .i64 0, .int .i64 0, .int .i64 0, .int .i64 0, .int .i64 0, .bool false], .int .i64 0, .int .i64 10]) (by simp [results, Tryz.results51, go_sem, p0, p1, p2, p3, p4, p5, p6, p7, p8]) rfl ⟨rfl, (((((((((((((((((c4.setCell (Nat.le_of_lt z2) _).setCell (Nat.le_of_lt z2) _).setCell (Nat.le_of_lt z2) _).setCell (Nat.le_of_lt z2) _).setCell (Nat.le_of_lt z2) _).setCell (Nat.le_of_lt z2) _).setCell (Nat.le_of_lt z2) _).setCell (Nat.le_of_lt z2) _).setCell (Nat.le_of_lt z2) _).setCell (Nat.le_refl _) _).setCell (Nat.le_refl _) _).setCell (Nat.le_refl _) _).setCell (Nat.le_refl _) _).setCell (Nat.le_refl _) _).setCell (Nat.le_refl _) _).setCell (Nat.le_refl _) _).setCell (Nat.le_refl _) _).setCell (Nat.le_refl _) _⟩
  · go_wp2_with fail
    exact bodyPost_ret (v := .tuple #[.agg #[.int .i64 y0, .int .i64 y1, .int .i64 y2, .int .i64 y3, .int .i64 y4, .int .i64 y5, .int .i64 y6, .int .i64 y7, .bool yb], .int .i64 2, .int .i64 0]) (by simp [results, Tryz.results51, go_sem, p0, p1, p2, p3, p4, p5, p6, p7, p8]) rfl ⟨rfl, (((((((((((((((((c4.setCell (Nat.le_of_lt z2) _).setCell (Nat.le_of_lt z2) _).setCell (Nat.le_of_lt z2) _).setCell (Nat.le_of_lt z2) _).setCell (Nat.le_of_lt z2) _).setCell (Nat.le_of_lt z2) _).setCell (Nat.le_of_lt z2) _).setCell (Nat.le_of_lt z2) _).setCell (Nat.le_of_lt z2) _).setCell (Nat.le_refl _) _).setCell (Nat.le_refl _) _).setCell (Nat.le_refl _) _).setCell (Nat.le_refl _) _).setCell (Nat.le_refl _) _).setCell (Nat.le_refl _) _).setCell (Nat.le_refl _) _).setCell (Nat.le_refl _) _).setCell (Nat.le_refl _) _⟩

end Go.Proofs.YtdeelhbckfmaeaaGreatDoor
/- For the seat: a store of an instruction's nine cells. -/
namespace Go.Proofs.YtdeelhbckfmaeaaGreatDoor
open Go.Sx Go.ChangeShapes Go.WideShapes Go.RowKit Go.Joins Go.Deep

set_option maxRecDepth 100000 in
/-- An instruction's store into a block that was not there. -/
theorem below9 {n : Nat} {w W : World} (h : Below n w W) {b : Nat} (hb : n ≤ b) (v0 v1 v2 v3 v4 v5 v6 v7 v8 : Value) : Below n w (((((((((W.setCell ⟨b, 0, none⟩ v0).setCell ⟨b, 1, none⟩ v1).setCell ⟨b, 2, none⟩ v2).setCell ⟨b, 3, none⟩ v3).setCell ⟨b, 4, none⟩ v4).setCell ⟨b, 5, none⟩ v5).setCell ⟨b, 6, none⟩ v6).setCell ⟨b, 7, none⟩ v7).setCell ⟨b, 8, none⟩ v8) :=
  (((((((((h).setCell (p := ⟨b, 0, none⟩) hb _).setCell (p := ⟨b, 1, none⟩) hb _).setCell (p := ⟨b, 2, none⟩) hb _).setCell (p := ⟨b, 3, none⟩) hb _).setCell (p := ⟨b, 4, none⟩) hb _).setCell (p := ⟨b, 5, none⟩) hb _).setCell (p := ⟨b, 6, none⟩) hb _).setCell (p := ⟨b, 7, none⟩) hb _).setCell (p := ⟨b, 8, none⟩) hb _

set_option maxRecDepth 100000 in
/-- Behind an instruction's store its cells are such, and others are as they were. -/
theorem st9 {W : World} {b : Nat} {x : Fields} (h : InsAt W b x) (z : Fields) (W3 : World) (h3 : (((((((((W.setCell ⟨b, 0, none⟩ (.int .i64 z.x0)).setCell ⟨b, 1, none⟩ (.int .i64 z.x1)).setCell ⟨b, 2, none⟩ (.int .i64 z.x2)).setCell ⟨b, 3, none⟩ (.int .i64 z.x3)).setCell ⟨b, 4, none⟩ (.int .i64 z.x4)).setCell ⟨b, 5, none⟩ (.int .i64 z.x5)).setCell ⟨b, 6, none⟩ (.int .i64 z.x6)).setCell ⟨b, 7, none⟩ (.int .i64 z.x7)).setCell ⟨b, 8, none⟩ (.bool z.b)) = W3) :
    (W3.cell? ⟨b, 0, none⟩ = some (.int .i64 z.x0) ∧ W3.cell? ⟨b, 1, none⟩ = some (.int .i64 z.x1) ∧ W3.cell? ⟨b, 2, none⟩ = some (.int .i64 z.x2) ∧ W3.cell? ⟨b, 3, none⟩ = some (.int .i64 z.x3) ∧ W3.cell? ⟨b, 4, none⟩ = some (.int .i64 z.x4) ∧ W3.cell? ⟨b, 5, none⟩ = some (.int .i64 z.x5) ∧ W3.cell? ⟨b, 6, none⟩ = some (.int .i64 z.x6) ∧ W3.cell? ⟨b, 7, none⟩ = some (.int .i64 z.x7) ∧ W3.cell? ⟨b, 8, none⟩ = some (.bool z.b)) ∧
    (∀ g o, b ≠ g → W3.cell? ⟨g, o, none⟩ = W.cell? ⟨g, o, none⟩) := by
  subst h3
  obtain ⟨⟨p0, p1, p2, p3, p4, p5, p6, p7, p8⟩, _⟩ := h
  refine ⟨⟨?_, ?_, ?_, ?_, ?_, ?_, ?_, ?_, ?_⟩, fun g o hg => far9 hg o _ _ _ _ _ _ _ _ _⟩ <;> simp [go_sem, p0, p1, p2, p3, p4, p5, p6, p7, p8]

end Go.Proofs.YtdeelhbckfmaeaaGreatDoor
/- For the seat: the reference's Decode: what it answers at any halfwords, where its parts answer. -/
namespace Go.Proofs.YtdeelhbckfmaeaaGreatDoor
open Go.Sx Go.ChangeShapes Go.WideShapes Go.RowKit Go.Joins Go.Deep

namespace lng
def longT' : Tm := .op2 .le (.num 29) (.op2 (.and .i64) (.op2 (.shr .i64) (.var 0) (.num 11)) (.num 31))
set_option maxRecDepth 100000 in
theorem runR : pxIs sg (.bool longT') (callT cx noS (Go.Sx.run cx noS 400) 82 [.int .i64 (.var 0)] [] (.bit true)) kn = true := by kernel_rfl
end lng

/-- Does a halfword begin an instruction of two, as the reference has it? -/
def longR (a : Int) : Bool := (lng.longT'.den (envOf F [.int a])).asBool

set_option maxRecDepth 100000 in
theorem longR_ans {a : Int} (ha : kHas .i64 a) : Ans 82 [.int .i64 a] (.bool (longR a)) := by
  have S : Sats (envOf F [.int a]) lng.kn := by
    refine Sats.start (one_vars (s := .int a) ha) _ ?_
    intro i hi
    simp only [List.mem_cons, List.not_mem_nil, or_false] at hi
    subst hi
    exact ⟨_, rfl⟩
  obtain ⟨x', h1, h2⟩ := pxIs_ok (sg_ok' F_signs) _ _ S lng.runR
  refine ans_of (call_ok (ρ := envOf F [.int a]) cxok (noS_ok _ _) (noS_body _) rfl h1) (by intro v hv; simp at hv; subst hv; rfl) rfl ?_
  intro ι
  rw [h2]
  rfl

set_option maxRecDepth 100000 in
theorem set9_below {w W : World} {n : Nat} (h : Below n w W) {b : Nat} (hb : n ≤ b) (v0 v1 v2 v3 v4 v5 v6 v7 v8 : Value) : Below n w (((((((((W.setCell ⟨b, 0, none⟩ v0).setCell ⟨b, 1, none⟩ v1).setCell ⟨b, 2, none⟩ v2).setCell ⟨b, 3, none⟩ v3).setCell ⟨b, 4, none⟩ v4).setCell ⟨b, 5, none⟩ v5).setCell ⟨b, 6, none⟩ v6).setCell ⟨b, 7, none⟩ v7).setCell ⟨b, 8, none⟩ v8) :=
  ((((((((h.setCell hb _).setCell hb _).setCell hb _).setCell hb _).setCell hb _).setCell hb _).setCell hb _).setCell hb _).setCell hb _

set_option maxRecDepth 100000 in
theorem decR_nil (A : Option Addr) (cap : Nat) (it : Bool) (w : World) : Calls Tryz.prog 46 #[.slice A 0 cap, .bool it] w fun e w' => RetD zeroF 0 2 e w w' := by
  go_enter Tryz.func46, Tryz.ntmps46
  go_wp2_with fail
  exact bodyPost_ret (v := .tuple #[.agg #[.int .i64 0, .int .i64 0, .int .i64 0, .int .i64 0, .int .i64 0, .int .i64 0, .int .i64 0, .int .i64 0, .bool false], .int .i64 0, .int .i64 2]) (by simp [results, Tryz.results46, go_sem]) rfl ⟨rfl, (Below.refl _ _).alloc (Nat.le_refl _) _⟩

set_option maxRecDepth 100000 in
set_option maxHeartbeats 1000000 in
theorem decR_short (a : Int) (r : List Int) (it : Bool) (A : Option Addr) (cap : Nat) (w : World) (h : IAt w w.heap.size A (a :: r)) (hlen : (a :: r).length ≤ maxLen) (hw : Laid w)
    (hL : Ans 82 [.int .i64 a] (.bool false)) (x0 x1 x2 x3 x4 x5 x6 x7 : Int) (xb ok : Bool)
    (hS : Ans 83 [.int .i64 a, .bool it] (.tuple #[.agg #[.int .i64 x0, .int .i64 x1, .int .i64 x2, .int .i64 x3, .int .i64 x4, .int .i64 x5, .int .i64 x6, .int .i64 x7, .bool xb], .bool ok])) :
    Calls Tryz.prog 46 #[.slice A (a :: r).length cap, .bool it] w fun e w' => RetD (if ok then ⟨x0, x1, x2, x3, x4, x5, x6, x7, xb⟩ else zeroF) (if ok then 1 else 0) (if ok then 0 else 10) e w w' := by
  obtain ⟨g, off, rfl, hg, hc⟩ := h.at_ (k := 0) (by simp)
  simp only [List.getElem_cons_zero, Nat.add_zero] at hc
  unfold maxLen at hlen
  have hn0 : 0 < (a :: r).length := by simp
  clear h
  generalize (a :: r).length = n at *
  have e0 : ((n : Int) == 0) = false := by simpa using (show ¬ n = 0 by omega)
  have lay : ∀ w1 : World, Below w.heap.size w w1 → Laid w1 := fun w1 hb => laid_below hw hb
  have b0 : Below w.heap.size w (w.alloc (.cells zeroF.cells 30)) := (Below.refl _ _).alloc (Nat.le_refl _) _
  have i0 : InsAt (w.alloc (.cells zeroF.cells 30)) w.heap.size zeroF := InsAt.new _ _ _
  have IZ := Lib.hid i0
  clear i0
  go_enter Tryz.func46, Tryz.ntmps46
  go_wp2_with fail
  ((with_reducible refine (hL.go (lay _ b0)).mono ?_); rintro e w1 ⟨rfl, hb1⟩)
  have c1 := b0.trans (hb1.mono (by simp))
  have i1 : Hid (InsAt w1 w.heap.size zeroF) := Lib.hid (IZ.out.below hb1 (by simp))
  clear IZ
  have hc1 : w1.cell? ⟨g, off, none⟩ = some (.int .i64 a) := (c1.cell (p := ⟨g, off, none⟩) hg).trans hc
  go_wp2_with fail
  ((with_reducible refine (hS.go (lay _ c1)).mono ?_); rintro e w2 ⟨rfl, hb2⟩)
  have c2 := c1.trans (hb2.mono c1.size)
  have z1 : w.heap.size < w1.heap.size := by have := hb1.size; simp at this; omega
  have i2 : Hid (InsAt w2 w.heap.size zeroF) := Lib.hid (i1.out.below hb2 z1)
  clear i1
  have z2 : w.heap.size < w2.heap.size := Nat.lt_of_lt_of_le z1 hb2.size
  clear b0 hc hc1 hL hS lay
  obtain ⟨⟨p0, p1, p2, p3, p4, p5, p6, p7, p8⟩, q0, q1, q2, q3, q4, q5, q6, q7, q8⟩ := i2.out
  simp only at p0 p1 p2 p3 p4 p5 p6 p7 p8
  have hne : ¬ w.heap.size = w2.heap.size := by omega
  have hne' : ¬ w2.heap.size = w.heap.size := by omega
  cases ok
  · go_wp2_with fail
    obtain ⟨W3, hW3⟩ : ∃ W3, ((((((((((w2.setCell ⟨w.heap.size, 0, none⟩ (.int .i64 0)).setCell ⟨w.heap.size, 1, none⟩ (.int .i64 0)).setCell ⟨w.heap.size, 2, none⟩ (.int .i64 0)).setCell ⟨w.heap.size, 3, none⟩ (.int .i64 0)).setCell ⟨w.heap.size, 4, none⟩ (.int .i64 0)).setCell ⟨w.heap.size, 5, none⟩ (.int .i64 0)).setCell ⟨w.heap.size, 6, none⟩ (.int .i64 0)).setCell ⟨w.heap.size, 7, none⟩ (.int .i64 0)).setCell ⟨w.heap.size, 8, none⟩ (.bool false))) = W3 := ⟨_, rfl⟩
    have B3 : Below w.heap.size w W3 := by rw [← hW3]; exact set9_below c2 (Nat.le_refl _) _ _ _ _ _ _ _ _ _
    have hz3 : w.heap.size < W3.heap.size := by rw [← hW3]; simpa using z2
    obtain ⟨⟨r0, r1, r2, r3, r4, r5, r6, r7, r8⟩, _⟩ := st9 i2.out zeroF W3 hW3
    simp only at r0 r1 r2 r3 r4 r5 r6 r7 r8
    rw [hW3]
    obtain ⟨W4, hW4⟩ : ∃ W4, W3.alloc (.cells #[.int .i64 x0, .int .i64 x1, .int .i64 x2, .int .i64 x3, .int .i64 x4, .int .i64 x5, .int .i64 x6, .int .i64 x7, .bool xb] 30) = W4 := ⟨_, rfl⟩
    have b34 : Below W3.heap.size W3 W4 := by rw [← hW4]; exact (Below.refl _ _).alloc (Nat.le_refl _) _
    have B4 : Below w.heap.size w W4 := by rw [← hW4]; exact B3.alloc B3.size _
    have k34 := fun o => b34.cell (p := ⟨w.heap.size, o, none⟩) hz3
    replace r0 := (k34 0).trans r0
    replace r1 := (k34 1).trans r1
    replace r2 := (k34 2).trans r2
    replace r3 := (k34 3).trans r3
    replace r4 := (k34 4).trans r4
    replace r5 := (k34 5).trans r5
    replace r6 := (k34 6).trans r6
    replace r7 := (k34 7).trans r7
    replace r8 := (k34 8).trans r8
    rw [hW4]
    exact bodyPost_ret (v := .tuple #[.agg #[.int .i64 0, .int .i64 0, .int .i64 0, .int .i64 0, .int .i64 0, .int .i64 0, .int .i64 0, .int .i64 0, .bool false], .int .i64 0, .int .i64 10]) (by simp [results, Tryz.results46, go_sem, r0, r1, r2, r3, r4, r5, r6, r7, r8]) rfl ⟨rfl, B4⟩
  · go_wp2_with fail
    obtain ⟨W3, hW3⟩ : ∃ W3, ((((((((((w2.setCell ⟨w.heap.size, 0, none⟩ (.int .i64 x0)).setCell ⟨w.heap.size, 1, none⟩ (.int .i64 x1)).setCell ⟨w.heap.size, 2, none⟩ (.int .i64 x2)).setCell ⟨w.heap.size, 3, none⟩ (.int .i64 x3)).setCell ⟨w.heap.size, 4, none⟩ (.int .i64 x4)).setCell ⟨w.heap.size, 5, none⟩ (.int .i64 x5)).setCell ⟨w.heap.size, 6, none⟩ (.int .i64 x6)).setCell ⟨w.heap.size, 7, none⟩ (.int .i64 x7)).setCell ⟨w.heap.size, 8, none⟩ (.bool xb))) = W3 := ⟨_, rfl⟩
    have B3 : Below w.heap.size w W3 := by rw [← hW3]; exact set9_below c2 (Nat.le_refl _) _ _ _ _ _ _ _ _ _
    have hz3 : w.heap.size < W3.heap.size := by rw [← hW3]; simpa using z2
    obtain ⟨⟨r0, r1, r2, r3, r4, r5, r6, r7, r8⟩, _⟩ := st9 i2.out ⟨x0, x1, x2, x3, x4, x5, x6, x7, xb⟩ W3 hW3
    simp only at r0 r1 r2 r3 r4 r5 r6 r7 r8
    rw [hW3]
    obtain ⟨W4, hW4⟩ : ∃ W4, W3.alloc (.cells #[.int .i64 x0, .int .i64 x1, .int .i64 x2, .int .i64 x3, .int .i64 x4, .int .i64 x5, .int .i64 x6, .int .i64 x7, .bool xb] 30) = W4 := ⟨_, rfl⟩
    have b34 : Below W3.heap.size W3 W4 := by rw [← hW4]; exact (Below.refl _ _).alloc (Nat.le_refl _) _
    have B4 : Below w.heap.size w W4 := by rw [← hW4]; exact B3.alloc B3.size _
    have k34 := fun o => b34.cell (p := ⟨w.heap.size, o, none⟩) hz3
    replace r0 := (k34 0).trans r0
    replace r1 := (k34 1).trans r1
    replace r2 := (k34 2).trans r2
    replace r3 := (k34 3).trans r3
    replace r4 := (k34 4).trans r4
    replace r5 := (k34 5).trans r5
    replace r6 := (k34 6).trans r6
    replace r7 := (k34 7).trans r7
    replace r8 := (k34 8).trans r8
    rw [hW4]
    exact bodyPost_ret (v := .tuple #[.agg #[.int .i64 x0, .int .i64 x1, .int .i64 x2, .int .i64 x3, .int .i64 x4, .int .i64 x5, .int .i64 x6, .int .i64 x7, .bool xb], .int .i64 1, .int .i64 0]) (by simp [results, Tryz.results46, go_sem, r0, r1, r2, r3, r4, r5, r6, r7, r8]) rfl ⟨rfl, B4⟩

set_option maxRecDepth 100000 in
set_option maxHeartbeats 1000000 in
theorem decR_end (a : Int) (it : Bool) (A : Option Addr) (cap : Nat) (w : World) (h : IAt w w.heap.size A [a]) (hw : Laid w) (hL : Ans 82 [.int .i64 a] (.bool true)) :
    Calls Tryz.prog 46 #[.slice A 1 cap, .bool it] w fun e w' => RetD zeroF 0 2 e w w' := by
  obtain ⟨g, off, rfl, hg, hc⟩ := h.at_ (k := 0) (by simp)
  simp only [List.getElem_cons_zero, Nat.add_zero] at hc
  clear h
  have b0 : Below w.heap.size w (w.alloc (.cells zeroF.cells 30)) := (Below.refl _ _).alloc (Nat.le_refl _) _
  have i0 : InsAt (w.alloc (.cells zeroF.cells 30)) w.heap.size zeroF := InsAt.new _ _ _
  have IZ := Lib.hid i0
  clear i0
  go_enter Tryz.func46, Tryz.ntmps46
  go_wp2_with fail
  ((with_reducible refine (hL.go (laid_below hw b0)).mono ?_); rintro e w1 ⟨rfl, hb1⟩)
  have c1 := b0.trans (hb1.mono (by simp))
  obtain ⟨⟨p0, p1, p2, p3, p4, p5, p6, p7, p8⟩, q0, q1, q2, q3, q4, q5, q6, q7, q8⟩ := IZ.out.below hb1 (by simp)
  simp only at p0 p1 p2 p3 p4 p5 p6 p7 p8
  clear IZ hL b0
  go_wp2_with fail
  exact bodyPost_ret (v := .tuple #[.agg #[.int .i64 0, .int .i64 0, .int .i64 0, .int .i64 0, .int .i64 0, .int .i64 0, .int .i64 0, .int .i64 0, .bool false], .int .i64 0, .int .i64 2]) (by simp [results, Tryz.results46, go_sem, p0, p1, p2, p3, p4, p5, p6, p7, p8]) rfl ⟨rfl, set9_below c1 (Nat.le_refl _) _ _ _ _ _ _ _ _ _⟩

set_option maxRecDepth 100000 in
set_option maxHeartbeats 2000000 in
theorem decR_long (a b : Int) (r : List Int) (it : Bool) (A : Option Addr) (cap : Nat) (w : World) (h : IAt w w.heap.size A (a :: b :: r)) (hlen : (a :: b :: r).length ≤ maxLen) (hw : Laid w)
    (hL : Ans 82 [.int .i64 a] (.bool true))
    (y0 y1 y2 y3 y4 y5 y6 y7 : Int) (yb : Bool) (yk : Bool)
    (hT : Ans 84 [.int .i64 a, .int .i64 b, .bool it] (.tuple #[.agg #[.int .i64 y0, .int .i64 y1, .int .i64 y2, .int .i64 y3, .int .i64 y4, .int .i64 y5, .int .i64 y6, .int .i64 y7, .bool yb], .bool yk])) :
    Calls Tryz.prog 46 #[.slice A (a :: b :: r).length cap, .bool it] w fun e w' => RetD (if yk then ⟨y0, y1, y2, y3, y4, y5, y6, y7, yb⟩ else zeroF) (if yk then 2 else 0) (if yk then 0 else 10) e w w' := by
  obtain ⟨g, off, rfl, hg, hc⟩ := h.at_ (k := 0) (by simp)
  obtain ⟨g', off', hA, hg', hd⟩ := h.at_ (k := 1) (by simp)
  simp only [Option.some.injEq, Addr.mk.injEq, and_true] at hA
  obtain ⟨rfl, rfl⟩ := hA
  simp only [List.getElem_cons_zero, Nat.add_zero] at hc
  simp only [List.getElem_cons_succ, List.getElem_cons_zero] at hd
  unfold maxLen at hlen
  have hn0 : 2 ≤ (a :: b :: r).length := by simp
  clear h hg'
  generalize (a :: b :: r).length = n at *
  have e0 : ((n : Int) == 0) = false := by simpa using (show ¬ n = 0 by omega)
  have lay : ∀ w1 : World, Below w.heap.size w w1 → Laid w1 := fun w1 hb => laid_below hw hb
  have b0 : Below w.heap.size w (w.alloc (.cells zeroF.cells 30)) := (Below.refl _ _).alloc (Nat.le_refl _) _
  have i0 : InsAt (w.alloc (.cells zeroF.cells 30)) w.heap.size zeroF := InsAt.new _ _ _
  have IZ := Lib.hid i0
  clear i0
  have hlt2 : decide ((n : Int) < 2) = false := decide_eq_false (by omega)
  have h1n : (1 : Int) < (n : Int) := by omega
  have h0n : (0 : Int) < (n : Int) := by omega
  have h0m : 0 < n := by omega
  have h1m : 1 < n := by omega
  go_enter Tryz.func46, Tryz.ntmps46
  go_wp2_with fail
  ((with_reducible refine (hL.go (lay _ b0)).mono ?_); rintro e w3 ⟨rfl, hb3⟩)
  have c3 := b0.trans (hb3.mono (by simp))
  have i3 : Hid (InsAt w3 w.heap.size zeroF) := Lib.hid (IZ.out.below hb3 (by simp))
  clear IZ
  have hc3 : w3.cell? ⟨g, off, none⟩ = some (.int .i64 a) := (c3.cell (p := ⟨g, off, none⟩) hg).trans hc
  have hd3 : w3.cell? ⟨g, off + 1, none⟩ = some (.int .i64 b) := (c3.cell (p := ⟨g, off + 1, none⟩) hg).trans hd
  have z03 : w.heap.size < w3.drew.heap.size := by have := hb3.size; simp at this; show w.heap.size < w3.heap.size; omega
  go_wp2_with fail
  have k0 : ∀ X : World, Below w3.heap.size w3.drew X → X.cell? ⟨g, off, none⟩ = some (.int .i64 a) := fun X h => (h.cell (p := ⟨g, off, none⟩) (Nat.lt_of_lt_of_le hg c3.size)).trans hc3
  have k1 : ∀ X : World, Below w3.heap.size w3.drew X → X.cell? ⟨g, off + 1, none⟩ = some (.int .i64 b) := fun X h => (h.cell (p := ⟨g, off + 1, none⟩) (Nat.lt_of_lt_of_le hg c3.size)).trans hd3
  have hg3 : g < w3.heap.size := Nat.lt_of_lt_of_le hg c3.size
  have nb : w3.heap.size ≠ g := by omega
  clear hL
  go_region_held3 (fun w' => w'.cell? ⟨g, off, none⟩ = some (.int .i64 a) ∧ w'.cell? ⟨g, off + 1, none⟩ = some (.int .i64 b))
    (first
      | (with_reducible exact ⟨hc4, hd4⟩)
      | (with_reducible exact ⟨(far9 nb _ _ _ _ _ _ _ _ _ _).trans hc4, (far9 nb _ _ _ _ _ _ _ _ _ _).trans hd4⟩)
      | (with_reducible exact ⟨k0 _ ((Below.refl _ _).alloc (Nat.le_refl _) _), k1 _ ((Below.refl _ _).alloc (Nat.le_refl _) _)⟩)
      | (with_reducible exact ⟨k0 _ (B1.alloc B1.size _), k1 _ (B1.alloc B1.size _)⟩)
      | go_keep)
    (first
      | (go_at_call 84; refine (hT.go (lay _ c3.drew)).mono ?_; rintro e w4 ⟨rfl, hb4⟩; have B1 : Below w3.heap.size w3.drew w4 := hb4; have hc4 := k0 _ B1; have hd4 := k1 _ B1)
      | (go_at_call 84; refine (hT.go (lay _ (c3.drew.alloc c3.size (.cells (Fields.cells zeroF) 30)))).mono ?_; rintro e w4 ⟨rfl, hb4⟩; have B1 : Below w3.heap.size w3.drew w4 := ((Below.refl _ _).alloc (Nat.le_refl _) _).trans (hb4.mono (by simp)); have hc4 := k0 _ B1; have hd4 := k1 _ B1; have IZ : InsAt w4 w3.heap.size zeroF := (InsAt.new w3.drew zeroF 30).below hb4 (by simp); obtain ⟨⟨P0, P1, P2, P3, P4, P5, P6, P7, P8⟩, Q0, Q1, Q2, Q3, Q4, Q5, Q6, Q7, Q8⟩ := IZ))
  · generalize hW5 : w4.alloc (.cells #[.int .i64 y0, .int .i64 y1, .int .i64 y2, .int .i64 y3, .int .i64 y4, .int .i64 y5, .int .i64 y6, .int .i64 y7, .bool yb] 30) = W5 at *
    have b45 : Below w4.heap.size w4 W5 := by rw [← hW5]; exact (Below.refl _ _).alloc (Nat.le_refl _) _
    have z4 : w3.heap.size ≤ w4.heap.size := B1.size
    have B5 : Below w.heap.size w W5 := (c3.drew.trans (B1.mono c3.size)).trans (b45.mono (by have := c3.size; omega))
    have J : InsAt W5 w4.heap.size ⟨y0, y1, y2, y3, y4, y5, y6, y7, yb⟩ := by rw [← hW5]; exact InsAt.new w4 ⟨y0, y1, y2, y3, y4, y5, y6, y7, yb⟩ 30
    have z03' : w.heap.size < w3.heap.size := z03
    obtain ⟨⟨p0, p1, p2, p3, p4, p5, p6, p7, p8⟩, q0, q1, q2, q3, q4, q5, q6, q7, q8⟩ := ((i3.out.drew.below B1 z03).below b45 (Nat.lt_of_lt_of_le z03' z4))
    obtain ⟨⟨r0, r1, r2, r3, r4, r5, r6, r7, r8⟩, _⟩ := J
    simp only at p0 p1 p2 p3 p4 p5 p6 p7 p8
    simp only at r0 r1 r2 r3 r4 r5 r6 r7 r8
    have hne : ¬ w.heap.size = w4.heap.size := by omega
    have hne' : ¬ w4.heap.size = w.heap.size := by omega
    clear hW5 hc3 hd3 hc4 hd4 k0 k1 i3
    generalize w4.heap.size = X at *
    cases yk
    · go_wp2_with fail
      exact bodyPost_ret (v := .tuple #[.agg #[.int .i64 0, .int .i64 0, .int .i64 0, .int .i64 0, .int .i64 0, .int .i64 0, .int .i64 0, .int .i64 0, .bool false], .int .i64 0, .int .i64 10]) (by simp [results, Tryz.results46, go_sem, p0, p1, p2, p3, p4, p5, p6, p7, p8]) rfl ⟨rfl, set9_below B5 (Nat.le_refl _) _ _ _ _ _ _ _ _ _⟩
    · go_wp2_with fail
      exact bodyPost_ret (v := .tuple #[.agg #[.int .i64 y0, .int .i64 y1, .int .i64 y2, .int .i64 y3, .int .i64 y4, .int .i64 y5, .int .i64 y6, .int .i64 y7, .bool yb], .int .i64 2, .int .i64 0]) (by simp [results, Tryz.results46, go_sem, p0, p1, p2, p3, p4, p5, p6, p7, p8]) rfl ⟨rfl, set9_below B5 (Nat.le_refl _) _ _ _ _ _ _ _ _ _⟩
  · generalize hW5 : (((((((((w4.setCell ⟨w3.heap.size, 0, none⟩ (.int .i64 y0)).setCell ⟨w3.heap.size, 1, none⟩ (.int .i64 y1)).setCell ⟨w3.heap.size, 2, none⟩ (.int .i64 y2)).setCell ⟨w3.heap.size, 3, none⟩ (.int .i64 y3)).setCell ⟨w3.heap.size, 4, none⟩ (.int .i64 y4)).setCell ⟨w3.heap.size, 5, none⟩ (.int .i64 y5)).setCell ⟨w3.heap.size, 6, none⟩ (.int .i64 y6)).setCell ⟨w3.heap.size, 7, none⟩ (.int .i64 y7)).setCell ⟨w3.heap.size, 8, none⟩ (.bool yb)) = W5 at *
    have z03' : w.heap.size < w3.heap.size := z03
    have b45 : Below w3.heap.size w4 W5 := by rw [← hW5]; exact set9_below (Below.refl _ _) (Nat.le_refl _) _ _ _ _ _ _ _ _ _
    have B5 : Below w.heap.size w W5 := (c3.drew.trans (B1.mono c3.size)).trans (b45.mono c3.size)
    have hIX : InsAt w4 w3.heap.size zeroF := ⟨⟨P0, P1, P2, P3, P4, P5, P6, P7, P8⟩, Q0, Q1, Q2, Q3, Q4, Q5, Q6, Q7, Q8⟩
    clear P0 P1 P2 P3 P4 P5 P6 P7 P8 Q0 Q1 Q2 Q3 Q4 Q5 Q6 Q7 Q8
    obtain ⟨⟨r0, r1, r2, r3, r4, r5, r6, r7, r8⟩, _⟩ := st9 hIX ⟨y0, y1, y2, y3, y4, y5, y6, y7, yb⟩ W5 hW5
    obtain ⟨⟨p0, p1, p2, p3, p4, p5, p6, p7, p8⟩, q0, q1, q2, q3, q4, q5, q6, q7, q8⟩ := ((i3.out.drew.below B1 z03).below b45 z03')
    simp only at p0 p1 p2 p3 p4 p5 p6 p7 p8
    simp only at r0 r1 r2 r3 r4 r5 r6 r7 r8
    have hne : ¬ w.heap.size = w3.heap.size := by omega
    have hne' : ¬ w3.heap.size = w.heap.size := by omega
    clear hW5 hc3 hd3 hc4 hd4 k0 k1 i3 hIX b45
    generalize w3.heap.size = X at *
    cases yk
    · go_wp2_with fail
      exact bodyPost_ret (v := .tuple #[.agg #[.int .i64 0, .int .i64 0, .int .i64 0, .int .i64 0, .int .i64 0, .int .i64 0, .int .i64 0, .int .i64 0, .bool false], .int .i64 0, .int .i64 10]) (by simp [results, Tryz.results46, go_sem, p0, p1, p2, p3, p4, p5, p6, p7, p8]) rfl ⟨rfl, set9_below B5 (Nat.le_refl _) _ _ _ _ _ _ _ _ _⟩
    · go_wp2_with fail
      exact bodyPost_ret (v := .tuple #[.agg #[.int .i64 y0, .int .i64 y1, .int .i64 y2, .int .i64 y3, .int .i64 y4, .int .i64 y5, .int .i64 y6, .int .i64 y7, .bool yb], .int .i64 2, .int .i64 0]) (by simp [results, Tryz.results46, go_sem, p0, p1, p2, p3, p4, p5, p6, p7, p8]) rfl ⟨rfl, set9_below B5 (Nat.le_refl _) _ _ _ _ _ _ _ _ _⟩
end Go.Proofs.YtdeelhbckfmaeaaGreatDoor
/- For the seat: the reference's Decode at any halfwords, as a function of them. -/
namespace Go.Proofs.YtdeelhbckfmaeaaGreatDoor
open Go.Sx Go.ChangeShapes Go.WideShapes Go.RowKit Go.Joins Go.Deep

set_option maxRecDepth 100000 in
theorem shoR_any {a : Int} (ha : kHas .i64 a) (it : Bool) : ∃ p, DecP 83 [.int .i64 a, .bool it] p := shoR_dec (fun j hj => shr.all j (by rw [sho.len] at hj; exact hj)) ha it
set_option maxRecDepth 100000 in
theorem talR_any {a b : Int} (ha : kHas .i64 a) (hb : kHas .i64 b) (it : Bool) : ∃ p, DecP 84 [.int .i64 a, .int .i64 b, .bool it] p := talR_dec (fun j hj => tlr.all j (by rw [tal.lenR] at hj; exact hj)) ha hb it

open Classical in
/-- What a halfword is read as. -/
noncomputable def shortR (a : Int) (it : Bool) : Fields × Bool := if h : ∃ p, DecP 83 [.int .i64 a, .bool it] p then Classical.choose h else (zeroF, false)
open Classical in
/-- What two halfwords are read as. -/
noncomputable def tallR (a b : Int) (it : Bool) : Fields × Bool := if h : ∃ p, DecP 84 [.int .i64 a, .int .i64 b, .bool it] p then Classical.choose h else (zeroF, false)
set_option maxRecDepth 100000 in
theorem shortR_ok {a : Int} (ha : kHas .i64 a) (it : Bool) : DecP 83 [.int .i64 a, .bool it] (shortR a it) := by
  unfold shortR
  rw [dif_pos (shoR_any ha it)]
  exact Classical.choose_spec (shoR_any ha it)
set_option maxRecDepth 100000 in
theorem tallR_ok {a b : Int} (ha : kHas .i64 a) (hb : kHas .i64 b) (it : Bool) : DecP 84 [.int .i64 a, .int .i64 b, .bool it] (tallR a b it) := by
  unfold tallR
  rw [dif_pos (talR_any ha hb it)]
  exact Classical.choose_spec (talR_any ha hb it)

def pickR (p : Fields × Bool) (n : Int) : Fields × Int × Int := (if p.2 then p.1 else zeroF, if p.2 then n else 0, if p.2 then 0 else 10)
/-- What halfwords are read as: the first instruction, how many halfwords, the error's number. -/
noncomputable def decR : List Int → Bool → Fields × Int × Int
  | [], _ => (zeroF, 0, 2)
  | [a], it => if longR a then (zeroF, 0, 2) else pickR (shortR a it) 1
  | a :: b :: _, it => if longR a then pickR (tallR a b it) 2 else pickR (shortR a it) 1

set_option maxRecDepth 100000 in
theorem decR_one (a : Int) (it : Bool) : decR [a] it = if longR a then (zeroF, 0, 2) else pickR (shortR a it) 1 := rfl
set_option maxRecDepth 100000 in
theorem decR_two (a b : Int) (r : List Int) (it : Bool) : decR (a :: b :: r) it = if longR a then pickR (tallR a b it) 2 else pickR (shortR a it) 1 := rfl

set_option maxRecDepth 100000 in
theorem decR_any (l : List Int) (A : Option Addr) (cap : Nat) (it : Bool) (w : World) (h : IAt w w.heap.size A l) (hl : ∀ a ∈ l, kHas .i64 a) (hlen : l.length ≤ maxLen) (hw : Laid w) :
    Calls Tryz.prog 46 #[.slice A l.length cap, .bool it] w fun e w' => RetD (decR l it).1 (decR l it).2.1 (decR l it).2.2 e w w' := by
  match l, h, hl, hlen with
  | [], _, _, _ => exact decR_nil A cap it w
  | a :: r, h, hl, hlen =>
    have ha := hl a (by simp)
    have hL := longR_ans ha
    have hS := (shortR_ok ha it).ans
    cases hlb : longR a
    · rw [hlb] at hL
      have e : decR (a :: r) it = pickR (shortR a it) 1 := by
        cases r
        · rw [decR_one, hlb]; rfl
        · rw [decR_two, hlb]; rfl
      rw [e]
      exact decR_short a r it A cap w h hlen hw hL _ _ _ _ _ _ _ _ _ _ hS
    · rw [hlb] at hL
      match r, h, hl, hlen with
      | [], h, _, _ =>
        have e : decR [a] it = (zeroF, 0, 2) := by rw [decR_one, hlb]; rfl
        rw [e]
        exact decR_end a it A cap w h hw hL
      | b :: r, h, hl, hlen =>
        have e : decR (a :: b :: r) it = pickR (tallR a b it) 2 := by rw [decR_two, hlb]; rfl
        rw [e]
        exact decR_long a b r it A cap w h hlen hw hL _ _ _ _ _ _ _ _ _ _ (tallR_ok ha (hl b (by simp)) it).ans

set_option maxRecDepth 100000 in
theorem pickR_num {p : Fields × Bool} {n : Int} (h : (pickR p n).2.2 = 0) : (pickR p n).2.1 = n ∧ p.2 = true ∧ (pickR p n).1 = p.1 := by
  unfold pickR at h ⊢
  by_cases hp : p.2 <;> simp [hp] at h ⊢

set_option maxRecDepth 100000 in
/-- It is of one halfword or two, and there are so many. -/
theorem decR_num {l : List Int} {it : Bool} (h : (decR l it).2.2 = 0) : ∃ n : Nat, (decR l it).2.1 = n ∧ 1 ≤ n ∧ n ≤ l.length ∧ n ≤ 2 := by
  match l with
  | [] => exact absurd (show (2 : Int) = 0 from h) (by decide)
  | [a] =>
    rw [decR_one] at h ⊢
    split at h
    · exact absurd (show (2 : Int) = 0 from h) (by decide)
    · rename_i hb
      rw [if_neg hb]
      exact ⟨1, (pickR_num h).1, by omega, by simp, by omega⟩
  | a :: b :: r =>
    rw [decR_two] at h ⊢
    split at h
    · rename_i hb
      rw [if_pos hb]
      exact ⟨2, (pickR_num h).1, by omega, by simp, by omega⟩
    · rename_i hb
      rw [if_neg hb]
      exact ⟨1, (pickR_num h).1, by omega, by simp, by omega⟩
end Go.Proofs.YtdeelhbckfmaeaaGreatDoor
