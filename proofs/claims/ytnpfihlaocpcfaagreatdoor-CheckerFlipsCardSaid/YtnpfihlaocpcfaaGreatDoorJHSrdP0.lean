/- For the seat: texts joined: SrdP0. -/
import Derived.Test.YtnpfihlaocpcfaaGreatDoorJL1b
/- SrdP0: the reference's decoder of one halfword, walked at some cases of the input. -/
namespace Go.Proofs.YtnpfihlaocpcfaaGreatDoor.srd
open Go.Sx
set_option maxRecDepth 100000
theorem w0x0 : ((List.range' 0 8).all fun j => sho.atRP j) = true := by kernel_rfl
set_option maxRecDepth 100000 in
theorem w0x8 : ((List.range' 8 8).all fun j => sho.atRP j) = true := by kernel_rfl
set_option maxRecDepth 100000 in
theorem w0x16 : ((List.range' 16 8).all fun j => sho.atRP j) = true := by kernel_rfl
set_option maxRecDepth 100000 in
theorem w0x24 : ((List.range' 24 8).all fun j => sho.atRP j) = true := by kernel_rfl
set_option maxRecDepth 100000 in
theorem w0x32 : ((List.range' 32 8).all fun j => sho.atRP j) = true := by kernel_rfl
set_option maxRecDepth 100000 in
theorem w0x40 : ((List.range' 40 8).all fun j => sho.atRP j) = true := by kernel_rfl
set_option maxRecDepth 100000 in
theorem w0x48 : ((List.range' 48 8).all fun j => sho.atRP j) = true := by kernel_rfl
set_option maxRecDepth 100000 in
theorem w0x56 : ((List.range' 56 8).all fun j => sho.atRP j) = true := by kernel_rfl
set_option maxRecDepth 100000 in
theorem w0x64 : ((List.range' 64 8).all fun j => sho.atRP j) = true := by kernel_rfl
set_option maxRecDepth 100000 in
theorem w0x72 : ((List.range' 72 8).all fun j => sho.atRP j) = true := by kernel_rfl
set_option maxRecDepth 100000 in
theorem w0x80 : ((List.range' 80 8).all fun j => sho.atRP j) = true := by kernel_rfl
set_option maxRecDepth 100000 in
theorem w0x88 : ((List.range' 88 6).all fun j => sho.atRP j) = true := by kernel_rfl
end Go.Proofs.YtnpfihlaocpcfaaGreatDoor.srd
