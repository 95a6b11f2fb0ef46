/- For the seat: texts joined: ShrP0. -/
import Derived.Test.YtdeelhbckfmaeaaGreatDoorJC0
/- ShrP0: the reference's decoder walked at some cases of the input. -/
namespace Go.Proofs.YtdeelhbckfmaeaaGreatDoor.shr
open Go.Sx
set_option maxRecDepth 100000
theorem w0x0 : ((List.range' 0 20).all fun j => sho.atR j) = true := by kernel_rfl
set_option maxRecDepth 100000 in
theorem w0x20 : ((List.range' 20 24).all fun j => sho.atR j) = true := by kernel_rfl
set_option maxRecDepth 100000 in
theorem w0x90 : ((List.range' 90 4).all fun j => sho.atR j) = true := by kernel_rfl
set_option maxRecDepth 100000 in
theorem w0x64 : ((List.range' 64 21).all fun j => sho.atR j) = true := by kernel_rfl
set_option maxRecDepth 100000 in
theorem w0x44 : ((List.range' 44 20).all fun j => sho.atR j) = true := by kernel_rfl
set_option maxRecDepth 100000 in
theorem w0x85 : ((List.range' 85 5).all fun j => sho.atR j) = true := by kernel_rfl
end Go.Proofs.YtdeelhbckfmaeaaGreatDoor.shr
