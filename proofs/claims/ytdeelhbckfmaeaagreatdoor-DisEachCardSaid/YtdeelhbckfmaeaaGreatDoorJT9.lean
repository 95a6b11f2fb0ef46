/- For the seat: texts joined: TlrP9. -/
import Derived.Test.YtdeelhbckfmaeaaGreatDoorJC0
/- TlrP9: the reference's decoder walked at some cases of the input. -/
namespace Go.Proofs.YtdeelhbckfmaeaaGreatDoor.tlr
open Go.Sx
set_option maxRecDepth 100000
theorem w0x284 : ((List.range' 284 9).all fun j => tal.atR j) = true := by kernel_rfl
set_option maxRecDepth 100000 in
theorem w0x213 : ((List.range' 213 8).all fun j => tal.atR j) = true := by kernel_rfl
set_option maxRecDepth 100000 in
theorem w0x196 : ((List.range' 196 7).all fun j => tal.atR j) = true := by kernel_rfl
set_option maxRecDepth 100000 in
theorem w0x14 : ((List.range' 14 1).all fun j => tal.atR j) = true := by kernel_rfl
set_option maxRecDepth 100000 in
theorem w0x248 : ((List.range' 248 1).all fun j => tal.atR j) = true := by kernel_rfl
set_option maxRecDepth 100000 in
theorem w0x341 : ((List.range' 341 1).all fun j => tal.atR j) = true := by kernel_rfl
set_option maxRecDepth 100000 in
theorem w0x353 : ((List.range' 353 1).all fun j => tal.atR j) = true := by kernel_rfl
set_option maxRecDepth 100000 in
theorem w0x365 : ((List.range' 365 1).all fun j => tal.atR j) = true := by kernel_rfl
set_option maxRecDepth 100000 in
theorem w0x377 : ((List.range' 377 1).all fun j => tal.atR j) = true := by kernel_rfl
set_option maxRecDepth 100000 in
theorem w0x389 : ((List.range' 389 1).all fun j => tal.atR j) = true := by kernel_rfl
set_option maxRecDepth 100000 in
theorem w0x401 : ((List.range' 401 1).all fun j => tal.atR j) = true := by kernel_rfl
set_option maxRecDepth 100000 in
theorem w0x413 : ((List.range' 413 1).all fun j => tal.atR j) = true := by kernel_rfl
set_option maxRecDepth 100000 in
theorem w0x425 : ((List.range' 425 1).all fun j => tal.atR j) = true := by kernel_rfl
end Go.Proofs.YtdeelhbckfmaeaaGreatDoor.tlr
