/-
  NARROWER THAN 'FOR EVERY INPUT', by the rows' own cells (each row's printed sentence says how): MachineExecs: laid · MachineReads: laid · MachineFaults: laid · MachineSplits: laid · MachinePasses: laid.
  DERIVED. THE GIVEN ROWS OF THIS SEAT. 5 by the template 'for every input the law returns true; each argument reads behind the call as it read before'; 0 by the template 'total and deterministic' (their statements: YthbdmlcbdibiiaaGreatDoorTotals.lean).
  GIVEN WITH THE SEED: the statements are not yours to turn. If you find one false, say at which input.
  Laid BY PROGRAM, IN A SANDBOX (cutbox-rows.mjs): the forced cells as the released guide's own fill.sh prints them over the translation 7d4f3354e2f5775d… (all of the seat's roots in one cut). By AI agents, Wed Nov 11 2026. No macro, syntax, notation, axiom, sorry.
-/
import Derived.Test.YthbdmlcbdibiiaaGreatDoorChecked
import GoSem.Claim
import GoSem.ClaimJoined
import GoSem.ClaimMapViews
import Derived.JoinedTies
import Derived.KernelRfl
namespace Go.Proofs.YthbdmlcbdibiiaaGreatDoor
/- THE CELL 'sum', in the pinned program and in every row, IS THE sha256 OF THE DUMP (.gsa) THAT YthbdmlcbdibiiaaGreatDoorProg.lean LOADS. Nothing in Lean hashes anything: it is a label: what it is worth is what the hold of that sum in a sandbox is worth. -/
noncomputable def Tryz.pinned : Pinned := { name := "ythbdmlcbdibiiaagreatdoor", sum := "7d4f3354e2f5775d2ac9e8aa55ae08b464f29d6687e025ed2cd899d46c2dee4e", checked := Tryz.checked }
namespace Rows
def none {H : Type} : Left H := { results := [], args := [] }

/- WHAT THE LISTED PACKAGE-LEVEL VARIABLES READ AS WHEN THE CALL BEGINS. Each datum BY PROGRAM (the guide's laid-datum.mjs) off the statement by which the dump's own 'gosem.cut.vars' lays the variable. In a bare row this is a premise. The card (YthbdmlcbdibiiaaGreatDoorCards.lean) ties it to the program's text. -/
def laid_cartouche_offs_kinds {H : Type} : DataW H := .agg [.agg [.lit (.int .i64 0), .lit (.bool false)], .agg [.lit (.int .i64 8), .lit (.bool true)], .agg [.lit (.int .i64 11), .lit (.bool true)], .agg [.lit (.int .i64 20), .lit (.bool true)], .agg [.lit (.int .i64 24), .lit (.bool true)], .agg [.lit (.int .i64 6), .lit (.bool false)]]

/-- 'cartouchelaw15.MachineExecs': WHATEVER THE INPUT: true; the input reads as it did. -/
def machineExecsSpec : ChangeSpec := { name := "machineExecs", fn := fun _ => fun
  | [d1, d2, d3] => { results := [.lit (.bool true)], args := [d1, d2, d3] }
  | _ => none }
def machineExecsRow : OpenClaim := { program := "ythbdmlcbdibiiaagreatdoor", sum := "7d4f3354e2f5775d2ac9e8aa55ae08b464f29d6687e025ed2cd899d46c2dee4e", func := "cartouche/cartouchelaw15.MachineExecs", spec := "machineExecs", unfollowed := true, recurses := true, named := ["cartouche/offs.kinds"], plainKeys := false, apart := false, laid := [("cartouche/offs.kinds", laid_cartouche_offs_kinds)] }
def MachineExecsSaid : Prop := machineExecsRow.holds Tryz.pinned (OpenSpec.ofChange machineExecsSpec)

/-- ITS FALSE NEIGHBOUR: 'it returns false'. Refute it at one input. -/
def machineExecsWrong : ChangeSpec := { name := "machineExecs", fn := fun _ => fun
  | [d1, d2, d3] => { results := [.lit (.bool false)], args := [d1, d2, d3] }
  | _ => none }
def MachineExecsWrongFalsely : Prop := machineExecsRow.holds Tryz.pinned (OpenSpec.ofChange machineExecsWrong)

/-- 'cartouchelaw15.MachineReads': WHATEVER THE INPUT: true; the input reads as it did. -/
def machineReadsSpec : ChangeSpec := { name := "machineReads", fn := fun _ => fun
  | [d1, d2] => { results := [.lit (.bool true)], args := [d1, d2] }
  | _ => none }
def machineReadsRow : OpenClaim := { program := "ythbdmlcbdibiiaagreatdoor", sum := "7d4f3354e2f5775d2ac9e8aa55ae08b464f29d6687e025ed2cd899d46c2dee4e", func := "cartouche/cartouchelaw15.MachineReads", spec := "machineReads", unfollowed := true, recurses := true, named := ["cartouche/offs.kinds"], plainKeys := false, apart := false, laid := [("cartouche/offs.kinds", laid_cartouche_offs_kinds)] }
def MachineReadsSaid : Prop := machineReadsRow.holds Tryz.pinned (OpenSpec.ofChange machineReadsSpec)

/-- ITS FALSE NEIGHBOUR: 'it returns false'. Refute it at one input. -/
def machineReadsWrong : ChangeSpec := { name := "machineReads", fn := fun _ => fun
  | [d1, d2] => { results := [.lit (.bool false)], args := [d1, d2] }
  | _ => none }
def MachineReadsWrongFalsely : Prop := machineReadsRow.holds Tryz.pinned (OpenSpec.ofChange machineReadsWrong)

/-- 'cartouchelaw15.MachineFaults': WHATEVER THE INPUT: true; the input reads as it did. -/
def machineFaultsSpec : ChangeSpec := { name := "machineFaults", fn := fun _ => fun
  | [d1, d2] => { results := [.lit (.bool true)], args := [d1, d2] }
  | _ => none }
def machineFaultsRow : OpenClaim := { program := "ythbdmlcbdibiiaagreatdoor", sum := "7d4f3354e2f5775d2ac9e8aa55ae08b464f29d6687e025ed2cd899d46c2dee4e", func := "cartouche/cartouchelaw15.MachineFaults", spec := "machineFaults", unfollowed := true, recurses := true, named := ["cartouche/offs.kinds"], plainKeys := false, apart := false, laid := [("cartouche/offs.kinds", laid_cartouche_offs_kinds)] }
def MachineFaultsSaid : Prop := machineFaultsRow.holds Tryz.pinned (OpenSpec.ofChange machineFaultsSpec)

/-- ITS FALSE NEIGHBOUR: 'it returns false'. Refute it at one input. -/
def machineFaultsWrong : ChangeSpec := { name := "machineFaults", fn := fun _ => fun
  | [d1, d2] => { results := [.lit (.bool false)], args := [d1, d2] }
  | _ => none }
def MachineFaultsWrongFalsely : Prop := machineFaultsRow.holds Tryz.pinned (OpenSpec.ofChange machineFaultsWrong)

/-- 'cartouchelaw15.MachineSplits': WHATEVER THE INPUT: true; the input reads as it did. -/
def machineSplitsSpec : ChangeSpec := { name := "machineSplits", fn := fun _ => fun
  | [d1, d2, d3] => { results := [.lit (.bool true)], args := [d1, d2, d3] }
  | _ => none }
def machineSplitsRow : OpenClaim := { program := "ythbdmlcbdibiiaagreatdoor", sum := "7d4f3354e2f5775d2ac9e8aa55ae08b464f29d6687e025ed2cd899d46c2dee4e", func := "cartouche/cartouchelaw15.MachineSplits", spec := "machineSplits", unfollowed := true, recurses := true, named := ["cartouche/offs.kinds"], plainKeys := false, apart := false, laid := [("cartouche/offs.kinds", laid_cartouche_offs_kinds)] }
def MachineSplitsSaid : Prop := machineSplitsRow.holds Tryz.pinned (OpenSpec.ofChange machineSplitsSpec)

/-- ITS FALSE NEIGHBOUR: 'it returns false'. Refute it at one input. -/
def machineSplitsWrong : ChangeSpec := { name := "machineSplits", fn := fun _ => fun
  | [d1, d2, d3] => { results := [.lit (.bool false)], args := [d1, d2, d3] }
  | _ => none }
def MachineSplitsWrongFalsely : Prop := machineSplitsRow.holds Tryz.pinned (OpenSpec.ofChange machineSplitsWrong)

/-- 'cartouchelaw15.MachinePasses': WHATEVER THE INPUT: true; the input reads as it did. -/
def machinePassesSpec : ChangeSpec := { name := "machinePasses", fn := fun _ => fun
  | [d1, d2, d3] => { results := [.lit (.bool true)], args := [d1, d2, d3] }
  | _ => none }
def machinePassesRow : OpenClaim := { program := "ythbdmlcbdibiiaagreatdoor", sum := "7d4f3354e2f5775d2ac9e8aa55ae08b464f29d6687e025ed2cd899d46c2dee4e", func := "cartouche/cartouchelaw15.MachinePasses", spec := "machinePasses", unfollowed := true, recurses := true, named := ["cartouche/offs.kinds"], plainKeys := false, apart := false, laid := [("cartouche/offs.kinds", laid_cartouche_offs_kinds)] }
def MachinePassesSaid : Prop := machinePassesRow.holds Tryz.pinned (OpenSpec.ofChange machinePassesSpec)

/-- ITS FALSE NEIGHBOUR: 'it returns false'. Refute it at one input. -/
def machinePassesWrong : ChangeSpec := { name := "machinePasses", fn := fun _ => fun
  | [d1, d2, d3] => { results := [.lit (.bool false)], args := [d1, d2, d3] }
  | _ => none }
def MachinePassesWrongFalsely : Prop := machinePassesRow.holds Tryz.pinned (OpenSpec.ofChange machinePassesWrong)

/- THE SECOND FORM. 'bulk': how many values and letters a reading holds, each counted each time it is reached (what is shared counts as often as it is met; a slice's spare places count too). A statement '..UptoSaid' is the law's where the arguments, and the package variables that the reading takes, are together of bulk at most 1048576: NARROWER than '..Said'. Prove '..Said' where nothing that the law and all that it calls make is longer than what came in: it says more and counts as full. Else prove '..UptoSaid'. A law counts once. -/
mutual
def uptoBulk {H : Type} : DataW H → Nat
  | .lit (.string bytes) => bytes.length + 1
  | .lit _ => 1
  | .nil => 1
  | .ptr d => uptoBulk d + 1
  | .slice elems spare => uptoBulkAll elems + uptoBulkAll spare + 1
  | .agg parts => uptoBulkAll parts + 1
  | .iface _ d => uptoBulk d + 1
  | .map entries => uptoBulkEntries entries + 1
  | .held _ => 1
def uptoBulkAll {H : Type} : List (DataW H) → Nat
  | [] => 0
  | d :: r => uptoBulk d + uptoBulkAll r
def uptoBulkEntries {H : Type} : List (Lit × DataW H) → Nat
  | [] => 0
  | x :: r => uptoBulkEntry x + uptoBulkEntries r
def uptoBulkEntry {H : Type} : Lit × DataW H → Nat
  | (.string bytes, d) => bytes.length + uptoBulk d + 1
  | (_, d) => uptoBulk d + 1
 end
def uptoSmall : (H : Type) → List (DataW H) → Bool := fun _ ds => decide (uptoBulkAll ds ≤ 1048576)
def OpenSpec.upto (s : _root_.Go.ChangeSpec) : _root_.Go.OpenSpec := { _root_.Go.OpenSpec.ofChange s with cond := some uptoSmall }

/-- 'cartouchelaw15.MachineExecs', WHERE WHAT IT READS IS OF BULK AT MOST 1048576: true; the input reads as it did. -/
def machineExecsUptoRow : OpenClaim := { program := "ythbdmlcbdibiiaagreatdoor", sum := "7d4f3354e2f5775d2ac9e8aa55ae08b464f29d6687e025ed2cd899d46c2dee4e", func := "cartouche/cartouchelaw15.MachineExecs", spec := "machineExecs", unfollowed := true, recurses := true, named := ["cartouche/offs.kinds"], plainKeys := false, apart := false, laid := [("cartouche/offs.kinds", laid_cartouche_offs_kinds)], narrowed := true }
def MachineExecsUptoSaid : Prop := machineExecsUptoRow.holds Tryz.pinned (OpenSpec.upto machineExecsSpec)

/-- 'cartouchelaw15.MachineReads', WHERE WHAT IT READS IS OF BULK AT MOST 1048576: true; the input reads as it did. -/
def machineReadsUptoRow : OpenClaim := { program := "ythbdmlcbdibiiaagreatdoor", sum := "7d4f3354e2f5775d2ac9e8aa55ae08b464f29d6687e025ed2cd899d46c2dee4e", func := "cartouche/cartouchelaw15.MachineReads", spec := "machineReads", unfollowed := true, recurses := true, named := ["cartouche/offs.kinds"], plainKeys := false, apart := false, laid := [("cartouche/offs.kinds", laid_cartouche_offs_kinds)], narrowed := true }
def MachineReadsUptoSaid : Prop := machineReadsUptoRow.holds Tryz.pinned (OpenSpec.upto machineReadsSpec)

/-- 'cartouchelaw15.MachineFaults', WHERE WHAT IT READS IS OF BULK AT MOST 1048576: true; the input reads as it did. -/
def machineFaultsUptoRow : OpenClaim := { program := "ythbdmlcbdibiiaagreatdoor", sum := "7d4f3354e2f5775d2ac9e8aa55ae08b464f29d6687e025ed2cd899d46c2dee4e", func := "cartouche/cartouchelaw15.MachineFaults", spec := "machineFaults", unfollowed := true, recurses := true, named := ["cartouche/offs.kinds"], plainKeys := false, apart := false, laid := [("cartouche/offs.kinds", laid_cartouche_offs_kinds)], narrowed := true }
def MachineFaultsUptoSaid : Prop := machineFaultsUptoRow.holds Tryz.pinned (OpenSpec.upto machineFaultsSpec)

/-- 'cartouchelaw15.MachineSplits', WHERE WHAT IT READS IS OF BULK AT MOST 1048576: true; the input reads as it did. -/
def machineSplitsUptoRow : OpenClaim := { program := "ythbdmlcbdibiiaagreatdoor", sum := "7d4f3354e2f5775d2ac9e8aa55ae08b464f29d6687e025ed2cd899d46c2dee4e", func := "cartouche/cartouchelaw15.MachineSplits", spec := "machineSplits", unfollowed := true, recurses := true, named := ["cartouche/offs.kinds"], plainKeys := false, apart := false, laid := [("cartouche/offs.kinds", laid_cartouche_offs_kinds)], narrowed := true }
def MachineSplitsUptoSaid : Prop := machineSplitsUptoRow.holds Tryz.pinned (OpenSpec.upto machineSplitsSpec)

/-- 'cartouchelaw15.MachinePasses', WHERE WHAT IT READS IS OF BULK AT MOST 1048576: true; the input reads as it did. -/
def machinePassesUptoRow : OpenClaim := { program := "ythbdmlcbdibiiaagreatdoor", sum := "7d4f3354e2f5775d2ac9e8aa55ae08b464f29d6687e025ed2cd899d46c2dee4e", func := "cartouche/cartouchelaw15.MachinePasses", spec := "machinePasses", unfollowed := true, recurses := true, named := ["cartouche/offs.kinds"], plainKeys := false, apart := false, laid := [("cartouche/offs.kinds", laid_cartouche_offs_kinds)], narrowed := true }
def MachinePassesUptoSaid : Prop := machinePassesUptoRow.holds Tryz.pinned (OpenSpec.upto machinePassesSpec)

end Rows
end Go.Proofs.YthbdmlcbdibiiaaGreatDoor
