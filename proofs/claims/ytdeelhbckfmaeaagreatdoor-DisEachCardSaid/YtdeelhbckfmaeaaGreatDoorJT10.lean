/- For the seat: texts joined: TlrP10. -/
import Derived.Test.YtdeelhbckfmaeaaGreatDoorJC0
/- TlrP10: the reference's decoder walked at some cases of the input. -/
namespace Go.Proofs.YtdeelhbckfmaeaaGreatDoor.tlr
open Go.Sx
set_option maxRecDepth 100000
theorem w0x329 : ((List.range' 329 9).all fun j => tal.atR j) = true := by kernel_rfl
set_option maxRecDepth 100000 in
theorem w0x240 : ((List.range' 240 8).all fun j => tal.atR j) = true := by kernel_rfl
set_option maxRecDepth 100000 in
theorem w0x431 : ((List.range' 431 7).all fun j => tal.atR j) = true := by kernel_rfl
set_option maxRecDepth 100000 in
theorem w0x59 : ((List.range' 59 1).all fun j => tal.atR j) = true := by kernel_rfl
set_option maxRecDepth 100000 in
theorem w0x257 : ((List.range' 257 1).all fun j => tal.atR j) = true := by kernel_rfl
set_option maxRecDepth 100000 in
theorem w0x342 : ((List.range' 342 1).all fun j => tal.atR j) = true := by kernel_rfl
set_option maxRecDepth 100000 in
theorem w0x354 : ((List.range' 354 1).all fun j => tal.atR j) = true := by kernel_rfl
set_option maxRecDepth 100000 in
theorem w0x366 : ((List.range' 366 1).all fun j => tal.atR j) = true := by kernel_rfl
set_option maxRecDepth 100000 in
theorem w0x378 : ((List.range' 378 1).all fun j => tal.atR j) = true := by kernel_rfl
set_option maxRecDepth 100000 in
theorem w0x390 : ((List.range' 390 1).all fun j => tal.atR j) = true := by kernel_rfl
set_option maxRecDepth 100000 in
theorem w0x402 : ((List.range' 402 1).all fun j => tal.atR j) = true := by kernel_rfl
set_option maxRecDepth 100000 in
theorem w0x414 : ((List.range' 414 1).all fun j => tal.atR j) = true := by kernel_rfl
end Go.Proofs.YtdeelhbckfmaeaaGreatDoor.tlr
