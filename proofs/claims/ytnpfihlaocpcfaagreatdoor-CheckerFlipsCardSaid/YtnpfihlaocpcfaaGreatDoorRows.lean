/-
  NARROWER THAN 'FOR EVERY INPUT', by the rows' own cells (each row's printed sentence says how): CheckerFlips: laid.
  DERIVED. THE GIVEN ROWS OF THIS SEAT. 1 by the template 'for every input the law returns true; each argument reads behind the call as it read before'; 0 by the template 'total and deterministic' (their statements: YtnpfihlaocpcfaaGreatDoorTotals.lean).
  GIVEN WITH THE SEED: the statements are not yours to turn. If you find one false, say at which input.
  Laid BY PROGRAM, IN A SANDBOX (cutbox-rows.mjs): the forced cells as the released guide's own fill.sh prints them over the translation b70848a33ed0dd27… (all of the seat's roots in one cut). By AI agents, Wed Nov 11 2026. No macro, syntax, notation, axiom, sorry.
-/
import Derived.Test.YtnpfihlaocpcfaaGreatDoorChecked
import GoSem.Claim
import GoSem.ClaimJoined
import GoSem.ClaimMapViews
import Derived.JoinedTies
import Derived.KernelRfl
namespace Go.Proofs.YtnpfihlaocpcfaaGreatDoor
/- THE CELL 'sum', in the pinned program and in every row, IS THE sha256 OF THE DUMP (.gsa) THAT YtnpfihlaocpcfaaGreatDoorProg.lean LOADS. Nothing in Lean hashes anything: it is a label: what it is worth is what the hold of that sum in a sandbox is worth. -/
noncomputable def Tryz.pinned : Pinned := { name := "ytnpfihlaocpcfaagreatdoor", sum := "b70848a33ed0dd2758e0d3ad5b6dfce16b6079221bb35251d78abccc9a5174f7", checked := Tryz.checked }
namespace Rows
def none {H : Type} : Left H := { results := [], args := [] }

/- WHAT THE LISTED PACKAGE-LEVEL VARIABLES READ AS WHEN THE CALL BEGINS. Each datum BY PROGRAM (the guide's laid-datum.mjs) off the statement by which the dump's own 'gosem.cut.vars' lays the variable. In a bare row this is a premise. The card (YtnpfihlaocpcfaaGreatDoorCards.lean) ties it to the program's text. -/
def laid_cartouche_offs_kinds {H : Type} : DataW H := .agg [.agg [.lit (.int .i64 0), .lit (.bool false)], .agg [.lit (.int .i64 8), .lit (.bool true)], .agg [.lit (.int .i64 11), .lit (.bool true)], .agg [.lit (.int .i64 20), .lit (.bool true)], .agg [.lit (.int .i64 24), .lit (.bool true)], .agg [.lit (.int .i64 6), .lit (.bool false)]]

/-- 'cartouchelaw25.CheckerFlips': WHATEVER THE INPUT: true; the input reads as it did. -/
def checkerFlipsSpec : ChangeSpec := { name := "checkerFlips", fn := fun _ => fun
  | [d1, d2] => { results := [.lit (.bool true)], args := [d1, d2] }
  | _ => none }
def checkerFlipsRow : OpenClaim := { program := "ytnpfihlaocpcfaagreatdoor", sum := "b70848a33ed0dd2758e0d3ad5b6dfce16b6079221bb35251d78abccc9a5174f7", func := "cartouche/cartouchelaw25.CheckerFlips", spec := "checkerFlips", unfollowed := true, recurses := true, named := ["cartouche/offs.kinds"], apart := false, laid := [("cartouche/offs.kinds", laid_cartouche_offs_kinds)] }
def CheckerFlipsSaid : Prop := checkerFlipsRow.holds Tryz.pinned (OpenSpec.ofChange checkerFlipsSpec)

/-- ITS FALSE NEIGHBOUR: 'it returns false'. Refute it at one input. -/
def checkerFlipsWrong : ChangeSpec := { name := "checkerFlips", fn := fun _ => fun
  | [d1, d2] => { results := [.lit (.bool false)], args := [d1, d2] }
  | _ => none }
def CheckerFlipsWrongFalsely : Prop := checkerFlipsRow.holds Tryz.pinned (OpenSpec.ofChange checkerFlipsWrong)

/- THE SECOND FORM. 'bulk': how many values and letters a reading holds, each counted each time it is reached (what is shared counts as often as it is met; a slice's spare places count too). A statement '..UptoSaid' is the law's where the arguments, and the package variables that the reading takes, are together of bulk at most 1048576: NARROWER than '..Said'. Prove '..Said' where nothing that the law and all that it calls make is longer than what came in: it says more and counts as full. Else prove '..UptoSaid'. A law counts once. -/
mutual
def uptoBulk {H : Type} : DataW H → Nat
  | .lit (.string bytes) => bytes.length + 1
  | .lit _ => 1
  | .nil => 1
  | .ptr d => uptoBulk d + 1
  | .slice elems spare => uptoBulkAll elems + uptoBulkAll spare + 1
  | .agg parts => uptoBulkAll parts + 1
  | .iface _ d => uptoBulk d + 1
  | .map entries => uptoBulkEntries entries + 1
  | .held _ => 1
def uptoBulkAll {H : Type} : List (DataW H) → Nat
  | [] => 0
  | d :: r => uptoBulk d + uptoBulkAll r
def uptoBulkEntries {H : Type} : List (Lit × DataW H) → Nat
  | [] => 0
  | x :: r => uptoBulkEntry x + uptoBulkEntries r
def uptoBulkEntry {H : Type} : Lit × DataW H → Nat
  | (.string bytes, d) => bytes.length + uptoBulk d + 1
  | (_, d) => uptoBulk d + 1
 end
def uptoSmall : (H : Type) → List (DataW H) → Bool := fun _ ds => decide (uptoBulkAll ds ≤ 1048576)
def OpenSpec.upto (s : _root_.Go.ChangeSpec) : _root_.Go.OpenSpec := { _root_.Go.OpenSpec.ofChange s with cond := some uptoSmall }

/-- 'cartouchelaw25.CheckerFlips', WHERE WHAT IT READS IS OF BULK AT MOST 1048576: true; the input reads as it did. -/
def checkerFlipsUptoRow : OpenClaim := { program := "ytnpfihlaocpcfaagreatdoor", sum := "b70848a33ed0dd2758e0d3ad5b6dfce16b6079221bb35251d78abccc9a5174f7", func := "cartouche/cartouchelaw25.CheckerFlips", spec := "checkerFlips", unfollowed := true, recurses := true, named := ["cartouche/offs.kinds"], apart := false, laid := [("cartouche/offs.kinds", laid_cartouche_offs_kinds)], narrowed := true }
def CheckerFlipsUptoSaid : Prop := checkerFlipsUptoRow.holds Tryz.pinned (OpenSpec.upto checkerFlipsSpec)

end Rows
end Go.Proofs.YtnpfihlaocpcfaaGreatDoor
