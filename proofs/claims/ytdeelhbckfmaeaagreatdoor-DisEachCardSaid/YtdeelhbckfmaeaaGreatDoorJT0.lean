/- For the seat: texts joined: TlrP0. -/
import Derived.Test.YtdeelhbckfmaeaaGreatDoorJC0
/- TlrP0: the reference's decoder walked at some cases of the input. -/
namespace Go.Proofs.YtdeelhbckfmaeaaGreatDoor.tlr
open Go.Sx
set_option maxRecDepth 100000
theorem w0x31 : ((List.range' 31 14).all fun j => tal.atR j) = true := by kernel_rfl
set_option maxRecDepth 100000 in
theorem w0x69 : ((List.range' 69 8).all fun j => tal.atR j) = true := by kernel_rfl
set_option maxRecDepth 100000 in
theorem w0x258 : ((List.range' 258 8).all fun j => tal.atR j) = true := by kernel_rfl
set_option maxRecDepth 100000 in
theorem w0x190 : ((List.range' 190 6).all fun j => tal.atR j) = true := by kernel_rfl
set_option maxRecDepth 100000 in
theorem w0x77 : ((List.range' 77 1).all fun j => tal.atR j) = true := by kernel_rfl
set_option maxRecDepth 100000 in
theorem w0x293 : ((List.range' 293 1).all fun j => tal.atR j) = true := by kernel_rfl
set_option maxRecDepth 100000 in
theorem w0x344 : ((List.range' 344 1).all fun j => tal.atR j) = true := by kernel_rfl
set_option maxRecDepth 100000 in
theorem w0x356 : ((List.range' 356 1).all fun j => tal.atR j) = true := by kernel_rfl
set_option maxRecDepth 100000 in
theorem w0x368 : ((List.range' 368 1).all fun j => tal.atR j) = true := by kernel_rfl
set_option maxRecDepth 100000 in
theorem w0x380 : ((List.range' 380 1).all fun j => tal.atR j) = true := by kernel_rfl
set_option maxRecDepth 100000 in
theorem w0x392 : ((List.range' 392 1).all fun j => tal.atR j) = true := by kernel_rfl
set_option maxRecDepth 100000 in
theorem w0x404 : ((List.range' 404 1).all fun j => tal.atR j) = true := by kernel_rfl
set_option maxRecDepth 100000 in
theorem w0x416 : ((List.range' 416 1).all fun j => tal.atR j) = true := by kernel_rfl
end Go.Proofs.YtdeelhbckfmaeaaGreatDoor.tlr
