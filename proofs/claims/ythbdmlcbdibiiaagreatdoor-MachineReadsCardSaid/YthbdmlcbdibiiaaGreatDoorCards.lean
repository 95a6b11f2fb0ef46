/-
  DERIVED. GIVEN WITH THE SEED: THE CARDS: each row of YthbdmlcbdibiiaaGreatDoorRows.lean that lists a variable, with what it lists TIED to the program's text (the seventh form; the later family's looks); each row that meets fmt, with fmt's text TOLD by the authors' own Lean function (tested against real Go, not proved from fmt's source: count such statements apart). THE CARD IS WHAT COUNTS. Prove the row's statement (the work); the ties are given (YthbdmlcbdibiiaaGreatDoorTie.lean); close each card by the builder's one call (the guide's Derived/Test/ToyasCard.lean, 'card_holds'). Laid BY PROGRAM, IN A SANDBOX (cutbox-door.mjs). By AI agents, Wed Nov 11 2026. No macro, syntax, notation, axiom, sorry.
-/
import Derived.Test.YthbdmlcbdibiiaaGreatDoorRows
import GoSem.ClaimSeven
namespace Go.Proofs.YthbdmlcbdibiiaaGreatDoor
namespace Rows

/-- THE TIED CARD OF 'cartouchelaw15.MachineExecs'. -/
def machineExecsCard : Claim7 := { stood := { row := machineExecsRow, standIns := [], harness := (true, "5383ebecef3adc7d0e3f55e059a08d3fa7ca35dd8798eeb7530c4feeab719f70"), looks := false }, kinds := [], alts := [], laidByText := true, laidKinds := [.data], laidTests := true, laidLooks := .later }
def MachineExecsCardSaid : Prop := Claim7.holds Tryz.pinned (.plain (OpenSpec.ofChange machineExecsSpec)) machineExecsCard

/-- THE TIED CARD OF 'cartouchelaw15.MachineReads'. -/
def machineReadsCard : Claim7 := { stood := { row := machineReadsRow, standIns := [], harness := (true, "5383ebecef3adc7d0e3f55e059a08d3fa7ca35dd8798eeb7530c4feeab719f70"), looks := false }, kinds := [], alts := [], laidByText := true, laidKinds := [.data], laidTests := true, laidLooks := .later }
def MachineReadsCardSaid : Prop := Claim7.holds Tryz.pinned (.plain (OpenSpec.ofChange machineReadsSpec)) machineReadsCard

/-- THE TIED CARD OF 'cartouchelaw15.MachineFaults'. -/
def machineFaultsCard : Claim7 := { stood := { row := machineFaultsRow, standIns := [], harness := (true, "5383ebecef3adc7d0e3f55e059a08d3fa7ca35dd8798eeb7530c4feeab719f70"), looks := false }, kinds := [], alts := [], laidByText := true, laidKinds := [.data], laidTests := true, laidLooks := .later }
def MachineFaultsCardSaid : Prop := Claim7.holds Tryz.pinned (.plain (OpenSpec.ofChange machineFaultsSpec)) machineFaultsCard

/-- THE TIED CARD OF 'cartouchelaw15.MachineSplits'. -/
def machineSplitsCard : Claim7 := { stood := { row := machineSplitsRow, standIns := [], harness := (true, "5383ebecef3adc7d0e3f55e059a08d3fa7ca35dd8798eeb7530c4feeab719f70"), looks := false }, kinds := [], alts := [], laidByText := true, laidKinds := [.data], laidTests := true, laidLooks := .later }
def MachineSplitsCardSaid : Prop := Claim7.holds Tryz.pinned (.plain (OpenSpec.ofChange machineSplitsSpec)) machineSplitsCard

/-- THE TIED CARD OF 'cartouchelaw15.MachinePasses'. -/
def machinePassesCard : Claim7 := { stood := { row := machinePassesRow, standIns := [], harness := (true, "5383ebecef3adc7d0e3f55e059a08d3fa7ca35dd8798eeb7530c4feeab719f70"), looks := false }, kinds := [], alts := [], laidByText := true, laidKinds := [.data], laidTests := true, laidLooks := .later }
def MachinePassesCardSaid : Prop := Claim7.holds Tryz.pinned (.plain (OpenSpec.ofChange machinePassesSpec)) machinePassesCard

/-- THE SECOND FORM's CARD OF 'cartouchelaw15.MachineExecs'. -/
def machineExecsUptoCard : Claim7 := { stood := { row := machineExecsUptoRow, standIns := [], harness := (true, "5383ebecef3adc7d0e3f55e059a08d3fa7ca35dd8798eeb7530c4feeab719f70"), looks := false }, kinds := [], alts := [], laidByText := true, laidKinds := [.data], laidTests := true, laidLooks := .later }
def MachineExecsUptoCardSaid : Prop := Claim7.holds Tryz.pinned (.plain (OpenSpec.upto machineExecsSpec)) machineExecsUptoCard

/-- THE SECOND FORM's CARD OF 'cartouchelaw15.MachineReads'. -/
def machineReadsUptoCard : Claim7 := { stood := { row := machineReadsUptoRow, standIns := [], harness := (true, "5383ebecef3adc7d0e3f55e059a08d3fa7ca35dd8798eeb7530c4feeab719f70"), looks := false }, kinds := [], alts := [], laidByText := true, laidKinds := [.data], laidTests := true, laidLooks := .later }
def MachineReadsUptoCardSaid : Prop := Claim7.holds Tryz.pinned (.plain (OpenSpec.upto machineReadsSpec)) machineReadsUptoCard

/-- THE SECOND FORM's CARD OF 'cartouchelaw15.MachineFaults'. -/
def machineFaultsUptoCard : Claim7 := { stood := { row := machineFaultsUptoRow, standIns := [], harness := (true, "5383ebecef3adc7d0e3f55e059a08d3fa7ca35dd8798eeb7530c4feeab719f70"), looks := false }, kinds := [], alts := [], laidByText := true, laidKinds := [.data], laidTests := true, laidLooks := .later }
def MachineFaultsUptoCardSaid : Prop := Claim7.holds Tryz.pinned (.plain (OpenSpec.upto machineFaultsSpec)) machineFaultsUptoCard

/-- THE SECOND FORM's CARD OF 'cartouchelaw15.MachineSplits'. -/
def machineSplitsUptoCard : Claim7 := { stood := { row := machineSplitsUptoRow, standIns := [], harness := (true, "5383ebecef3adc7d0e3f55e059a08d3fa7ca35dd8798eeb7530c4feeab719f70"), looks := false }, kinds := [], alts := [], laidByText := true, laidKinds := [.data], laidTests := true, laidLooks := .later }
def MachineSplitsUptoCardSaid : Prop := Claim7.holds Tryz.pinned (.plain (OpenSpec.upto machineSplitsSpec)) machineSplitsUptoCard

/-- THE SECOND FORM's CARD OF 'cartouchelaw15.MachinePasses'. -/
def machinePassesUptoCard : Claim7 := { stood := { row := machinePassesUptoRow, standIns := [], harness := (true, "5383ebecef3adc7d0e3f55e059a08d3fa7ca35dd8798eeb7530c4feeab719f70"), looks := false }, kinds := [], alts := [], laidByText := true, laidKinds := [.data], laidTests := true, laidLooks := .later }
def MachinePassesUptoCardSaid : Prop := Claim7.holds Tryz.pinned (.plain (OpenSpec.upto machinePassesSpec)) machinePassesUptoCard
end Rows
end Go.Proofs.YthbdmlcbdibiiaaGreatDoor
