/-
  NARROWER THAN 'FOR EVERY INPUT', by the rows' own cells (each row's printed sentence says how): CheckerBoth: laid · CheckerShort: laid.
  DERIVED. THE GIVEN ROWS OF THIS SEAT. 2 by the template 'for every input the law returns true; each argument reads behind the call as it read before'; 0 by the template 'total and deterministic' (their statements: YtiicniiecomhjaaDoorTotals.lean).
  GIVEN WITH THE SEED: the statements are not yours to turn. If you find one false, say at which input.
  Laid BY PROGRAM, IN A SANDBOX (cutbox-rows.mjs): the forced cells as the released guide's own fill.sh prints them over the translation b36c8f38f2a12ae3… (all of the seat's roots in one cut). By AI agents, Wed Nov 11 2026. No macro, syntax, notation, axiom, sorry.
-/
import Derived.Test.YtiicniiecomhjaaDoorChecked
import GoSem.Claim
import GoSem.ClaimJoined
import GoSem.ClaimMapViews
import Derived.JoinedTies
import Derived.KernelRfl
namespace Go.Proofs.YtiicniiecomhjaaDoor
/- THE CELL 'sum', in the pinned program and in every row, IS THE sha256 OF THE DUMP (.gsa) THAT YtiicniiecomhjaaDoorProg.lean LOADS. Nothing in Lean hashes anything: it is a label: what it is worth is what the hold of that sum in a sandbox is worth. -/
noncomputable def Tryd.pinned : Pinned := { name := "ytiicniiecomhjaadoor", sum := "b36c8f38f2a12ae3fb2e1ddc59745ef663fb70c36986e76044453797aefa8195", checked := Tryd.checked }
namespace Rows
def none {H : Type} : Left H := { results := [], args := [] }

/- WHAT THE LISTED PACKAGE-LEVEL VARIABLES READ AS WHEN THE CALL BEGINS. Each datum BY PROGRAM (the guide's laid-datum.mjs) off the statement by which the dump's own 'gosem.cut.vars' lays the variable. In a bare row this is a premise. The card (YtiicniiecomhjaaDoorCards.lean) ties it to the program's text. -/
def laid_cartouche_offs_kinds {H : Type} : DataW H := .agg [.agg [.lit (.int .i64 0), .lit (.bool false)], .agg [.lit (.int .i64 8), .lit (.bool true)], .agg [.lit (.int .i64 11), .lit (.bool true)], .agg [.lit (.int .i64 20), .lit (.bool true)], .agg [.lit (.int .i64 24), .lit (.bool true)], .agg [.lit (.int .i64 6), .lit (.bool false)]]

/-- 'cartouchelaw25.CheckerBoth': WHATEVER THE INPUT: true; the input reads as it did. -/
def checkerBothSpec : ChangeSpec := { name := "checkerBoth", fn := fun _ => fun
  | [d] => { results := [.lit (.bool true)], args := [d] }
  | _ => none }
def checkerBothRow : OpenClaim := { program := "ytiicniiecomhjaadoor", sum := "b36c8f38f2a12ae3fb2e1ddc59745ef663fb70c36986e76044453797aefa8195", func := "cartouche/cartouchelaw25.CheckerBoth", spec := "checkerBoth", unfollowed := true, recurses := true, named := ["cartouche/offs.kinds"], apart := false, laid := [("cartouche/offs.kinds", laid_cartouche_offs_kinds)] }
def CheckerBothSaid : Prop := checkerBothRow.holds Tryd.pinned (OpenSpec.ofChange checkerBothSpec)

/-- ITS FALSE NEIGHBOUR: 'it returns false'. Refute it at one input. -/
def checkerBothWrong : ChangeSpec := { name := "checkerBoth", fn := fun _ => fun
  | [d] => { results := [.lit (.bool false)], args := [d] }
  | _ => none }
def CheckerBothWrongFalsely : Prop := checkerBothRow.holds Tryd.pinned (OpenSpec.ofChange checkerBothWrong)

/-- 'cartouchelaw25.CheckerShort': WHATEVER THE INPUT: true; the input reads as it did. -/
def checkerShortSpec : ChangeSpec := { name := "checkerShort", fn := fun _ => fun
  | [d] => { results := [.lit (.bool true)], args := [d] }
  | _ => none }
def checkerShortRow : OpenClaim := { program := "ytiicniiecomhjaadoor", sum := "b36c8f38f2a12ae3fb2e1ddc59745ef663fb70c36986e76044453797aefa8195", func := "cartouche/cartouchelaw25.CheckerShort", spec := "checkerShort", unfollowed := true, recurses := true, named := ["cartouche/offs.kinds"], apart := false, laid := [("cartouche/offs.kinds", laid_cartouche_offs_kinds)] }
def CheckerShortSaid : Prop := checkerShortRow.holds Tryd.pinned (OpenSpec.ofChange checkerShortSpec)

/-- ITS FALSE NEIGHBOUR: 'it returns false'. Refute it at one input. -/
def checkerShortWrong : ChangeSpec := { name := "checkerShort", fn := fun _ => fun
  | [d] => { results := [.lit (.bool false)], args := [d] }
  | _ => none }
def CheckerShortWrongFalsely : Prop := checkerShortRow.holds Tryd.pinned (OpenSpec.ofChange checkerShortWrong)

/- THE SECOND FORM. 'bulk': how many values and letters a reading holds, each counted each time it is reached (what is shared counts as often as it is met; a slice's spare places count too). A statement '..UptoSaid' is the law's where the arguments, and the package variables that the reading takes, are together of bulk at most 1048576: NARROWER than '..Said'. Prove '..Said' where nothing that the law and all that it calls make is longer than what came in: it says more and counts as full. Else prove '..UptoSaid'. A law counts once. -/
mutual
def uptoBulk {H : Type} : DataW H → Nat
  | .lit (.string bytes) => bytes.length + 1
  | .lit _ => 1
  | .nil => 1
  | .ptr d => uptoBulk d + 1
  | .slice elems spare => uptoBulkAll elems + uptoBulkAll spare + 1
  | .agg parts => uptoBulkAll parts + 1
  | .iface _ d => uptoBulk d + 1
  | .map entries => uptoBulkEntries entries + 1
  | .held _ => 1
def uptoBulkAll {H : Type} : List (DataW H) → Nat
  | [] => 0
  | d :: r => uptoBulk d + uptoBulkAll r
def uptoBulkEntries {H : Type} : List (Lit × DataW H) → Nat
  | [] => 0
  | x :: r => uptoBulkEntry x + uptoBulkEntries r
def uptoBulkEntry {H : Type} : Lit × DataW H → Nat
  | (.string bytes, d) => bytes.length + uptoBulk d + 1
  | (_, d) => uptoBulk d + 1
 end
def uptoSmall : (H : Type) → List (DataW H) → Bool := fun _ ds => decide (uptoBulkAll ds ≤ 1048576)
def OpenSpec.upto (s : _root_.Go.ChangeSpec) : _root_.Go.OpenSpec := { _root_.Go.OpenSpec.ofChange s with cond := some uptoSmall }

/-- 'cartouchelaw25.CheckerBoth', WHERE WHAT IT READS IS OF BULK AT MOST 1048576: true; the input reads as it did. -/
def checkerBothUptoRow : OpenClaim := { program := "ytiicniiecomhjaadoor", sum := "b36c8f38f2a12ae3fb2e1ddc59745ef663fb70c36986e76044453797aefa8195", func := "cartouche/cartouchelaw25.CheckerBoth", spec := "checkerBoth", unfollowed := true, recurses := true, named := ["cartouche/offs.kinds"], apart := false, laid := [("cartouche/offs.kinds", laid_cartouche_offs_kinds)], narrowed := true }
def CheckerBothUptoSaid : Prop := checkerBothUptoRow.holds Tryd.pinned (OpenSpec.upto checkerBothSpec)

/-- 'cartouchelaw25.CheckerShort', WHERE WHAT IT READS IS OF BULK AT MOST 1048576: true; the input reads as it did. -/
def checkerShortUptoRow : OpenClaim := { program := "ytiicniiecomhjaadoor", sum := "b36c8f38f2a12ae3fb2e1ddc59745ef663fb70c36986e76044453797aefa8195", func := "cartouche/cartouchelaw25.CheckerShort", spec := "checkerShort", unfollowed := true, recurses := true, named := ["cartouche/offs.kinds"], apart := false, laid := [("cartouche/offs.kinds", laid_cartouche_offs_kinds)], narrowed := true }
def CheckerShortUptoSaid : Prop := checkerShortUptoRow.holds Tryd.pinned (OpenSpec.upto checkerShortSpec)

end Rows
end Go.Proofs.YtiicniiecomhjaaDoor
