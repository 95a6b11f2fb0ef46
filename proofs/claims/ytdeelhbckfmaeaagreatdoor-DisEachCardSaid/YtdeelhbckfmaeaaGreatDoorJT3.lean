/- For the seat: texts joined: TlrP3. -/
import Derived.Test.YtdeelhbckfmaeaaGreatDoorJC0
/- TlrP3: the reference's decoder walked at some cases of the input. -/
namespace Go.Proofs.YtdeelhbckfmaeaaGreatDoor.tlr
open Go.Sx
set_option maxRecDepth 100000
theorem w0x122 : ((List.range' 122 9).all fun j => tal.atR j) = true := by kernel_rfl
set_option maxRecDepth 100000 in
theorem w0x105 : ((List.range' 105 8).all fun j => tal.atR j) = true := by kernel_rfl
set_option maxRecDepth 100000 in
theorem w0x303 : ((List.range' 303 8).all fun j => tal.atR j) = true := by kernel_rfl
set_option maxRecDepth 100000 in
theorem w0x15 : ((List.range' 15 4).all fun j => tal.atR j) = true := by kernel_rfl
set_option maxRecDepth 100000 in
theorem w0x104 : ((List.range' 104 1).all fun j => tal.atR j) = true := by kernel_rfl
set_option maxRecDepth 100000 in
theorem w0x320 : ((List.range' 320 1).all fun j => tal.atR j) = true := by kernel_rfl
set_option maxRecDepth 100000 in
theorem w0x347 : ((List.range' 347 1).all fun j => tal.atR j) = true := by kernel_rfl
set_option maxRecDepth 100000 in
theorem w0x359 : ((List.range' 359 1).all fun j => tal.atR j) = true := by kernel_rfl
set_option maxRecDepth 100000 in
theorem w0x371 : ((List.range' 371 1).all fun j => tal.atR j) = true := by kernel_rfl
set_option maxRecDepth 100000 in
theorem w0x383 : ((List.range' 383 1).all fun j => tal.atR j) = true := by kernel_rfl
set_option maxRecDepth 100000 in
theorem w0x395 : ((List.range' 395 1).all fun j => tal.atR j) = true := by kernel_rfl
set_option maxRecDepth 100000 in
theorem w0x407 : ((List.range' 407 1).all fun j => tal.atR j) = true := by kernel_rfl
set_option maxRecDepth 100000 in
theorem w0x419 : ((List.range' 419 1).all fun j => tal.atR j) = true := by kernel_rfl
end Go.Proofs.YtdeelhbckfmaeaaGreatDoor.tlr
