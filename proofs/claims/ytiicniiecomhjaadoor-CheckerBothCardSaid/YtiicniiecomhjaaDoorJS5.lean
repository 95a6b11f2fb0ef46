/- For the seat: texts joined: ShaP0, ShaP1, Sha. -/
import Derived.Test.YtiicniiecomhjaaDoorJC0
/- Sha: the walks at some cases of the input. -/
namespace Go.Proofs.YtiicniiecomhjaaDoor.sha
open Go.Sx
set_option maxRecDepth 100000
theorem w0x0 : ((List.range' 0 20).all fun j => sho.at' j) = true := by kernel_rfl
theorem w0x20 : ((List.range' 20 24).all fun j => sho.at' j) = true := by kernel_rfl
theorem w0x90 : ((List.range' 90 4).all fun j => sho.at' j) = true := by kernel_rfl
end Go.Proofs.YtiicniiecomhjaaDoor.sha
/- Sha: the walks at some cases of the input. -/
namespace Go.Proofs.YtiicniiecomhjaaDoor.sha
open Go.Sx
set_option maxRecDepth 100000
theorem w0x64 : ((List.range' 64 21).all fun j => sho.at' j) = true := by kernel_rfl
theorem w0x44 : ((List.range' 44 20).all fun j => sho.at' j) = true := by kernel_rfl
theorem w0x85 : ((List.range' 85 5).all fun j => sho.at' j) = true := by kernel_rfl
end Go.Proofs.YtiicniiecomhjaaDoor.sha
/- Sha: all cases of the input. -/
namespace Go.Proofs.YtiicniiecomhjaaDoor.sha
open Go.Sx
set_option maxRecDepth 100000
theorem all : ∀ j : Nat, j < 94 → sho.at' j = true := by
  intro j hj
  by_cases h : j < 20
  · exact List.all_eq_true.1 w0x0 j (List.mem_range'_1.2 ⟨by omega, by omega⟩)
  by_cases h : j < 44
  · exact List.all_eq_true.1 w0x20 j (List.mem_range'_1.2 ⟨by omega, by omega⟩)
  by_cases h : j < 64
  · exact List.all_eq_true.1 w0x44 j (List.mem_range'_1.2 ⟨by omega, by omega⟩)
  by_cases h : j < 85
  · exact List.all_eq_true.1 w0x64 j (List.mem_range'_1.2 ⟨by omega, by omega⟩)
  by_cases h : j < 90
  · exact List.all_eq_true.1 w0x85 j (List.mem_range'_1.2 ⟨by omega, by omega⟩)
  by_cases h : j < 94
  · exact List.all_eq_true.1 w0x90 j (List.mem_range'_1.2 ⟨by omega, by omega⟩)
  omega
end Go.Proofs.YtiicniiecomhjaaDoor.sha
