/- For the seat: texts joined: TlrP2. -/
import Derived.Test.YtdeelhbckfmaeaaGreatDoorJC0
/- TlrP2: the reference's decoder walked at some cases of the input. -/
namespace Go.Proofs.YtdeelhbckfmaeaaGreatDoor.tlr
open Go.Sx
set_option maxRecDepth 100000
theorem w0x113 : ((List.range' 113 9).all fun j => tal.atR j) = true := by kernel_rfl
set_option maxRecDepth 100000 in
theorem w0x96 : ((List.range' 96 8).all fun j => tal.atR j) = true := by kernel_rfl
set_option maxRecDepth 100000 in
theorem w0x294 : ((List.range' 294 8).all fun j => tal.atR j) = true := by kernel_rfl
set_option maxRecDepth 100000 in
theorem w0x444 : ((List.range' 444 5).all fun j => tal.atR j) = true := by kernel_rfl
set_option maxRecDepth 100000 in
theorem w0x95 : ((List.range' 95 1).all fun j => tal.atR j) = true := by kernel_rfl
set_option maxRecDepth 100000 in
theorem w0x311 : ((List.range' 311 1).all fun j => tal.atR j) = true := by kernel_rfl
set_option maxRecDepth 100000 in
theorem w0x346 : ((List.range' 346 1).all fun j => tal.atR j) = true := by kernel_rfl
set_option maxRecDepth 100000 in
theorem w0x358 : ((List.range' 358 1).all fun j => tal.atR j) = true := by kernel_rfl
set_option maxRecDepth 100000 in
theorem w0x370 : ((List.range' 370 1).all fun j => tal.atR j) = true := by kernel_rfl
set_option maxRecDepth 100000 in
theorem w0x382 : ((List.range' 382 1).all fun j => tal.atR j) = true := by kernel_rfl
set_option maxRecDepth 100000 in
theorem w0x394 : ((List.range' 394 1).all fun j => tal.atR j) = true := by kernel_rfl
set_option maxRecDepth 100000 in
theorem w0x406 : ((List.range' 406 1).all fun j => tal.atR j) = true := by kernel_rfl
set_option maxRecDepth 100000 in
theorem w0x418 : ((List.range' 418 1).all fun j => tal.atR j) = true := by kernel_rfl
end Go.Proofs.YtdeelhbckfmaeaaGreatDoor.tlr
