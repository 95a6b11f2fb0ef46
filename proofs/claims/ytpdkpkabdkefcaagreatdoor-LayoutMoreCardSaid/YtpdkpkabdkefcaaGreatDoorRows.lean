/-
  NARROWER THAN 'FOR EVERY INPUT', by the rows' own cells (each row's printed sentence says how): LayoutStarts: loops, laid · LayoutEnds: loops, laid · LayoutMore: loops, laid.
  DERIVED. THE GIVEN ROWS OF THIS SEAT. 3 by the template 'for every input the law returns true; each argument reads behind the call as it read before'; 0 by the template 'total and deterministic' (their statements: YtpdkpkabdkefcaaGreatDoorTotals.lean).
  GIVEN WITH THE SEED: the statements are not yours to turn. If you find one false, say at which input.
  Laid BY PROGRAM, IN A SANDBOX (cutbox-rows.mjs): the forced cells as the released guide's own fill.sh prints them over the translation d79864d317488bfe… (all of the seat's roots in one cut). By AI agents, Wed Nov 11 2026. No macro, syntax, notation, axiom, sorry.
-/
import Derived.Test.YtpdkpkabdkefcaaGreatDoorChecked
import GoSem.Claim
import GoSem.ClaimJoined
import GoSem.ClaimMapViews
import Derived.JoinedTies
import Derived.KernelRfl
namespace Go.Proofs.YtpdkpkabdkefcaaGreatDoor
/- THE CELL 'sum', in the pinned program and in every row, IS THE sha256 OF THE DUMP (.gsa) THAT YtpdkpkabdkefcaaGreatDoorProg.lean LOADS. Nothing in Lean hashes anything: it is a label: what it is worth is what the hold of that sum in a sandbox is worth. -/
noncomputable def Tryz.pinned : Pinned := { name := "ytpdkpkabdkefcaagreatdoor", sum := "d79864d317488bfeb50e070e0d6aee94abbd90112024ae0032b926c7ed327e2e", checked := Tryz.checked }
namespace Rows
def none {H : Type} : Left H := { results := [], args := [] }

/- WHAT THE LISTED PACKAGE-LEVEL VARIABLES READ AS WHEN THE CALL BEGINS. Each datum BY PROGRAM (the guide's laid-datum.mjs) off the statement by which the dump's own 'gosem.cut.vars' lays the variable. In a bare row this is a premise. The card (YtpdkpkabdkefcaaGreatDoorCards.lean) ties it to the program's text. -/
def laid_cartouche_offs_kinds {H : Type} : DataW H := .agg [.agg [.lit (.int .i64 0), .lit (.bool false)], .agg [.lit (.int .i64 8), .lit (.bool true)], .agg [.lit (.int .i64 11), .lit (.bool true)], .agg [.lit (.int .i64 20), .lit (.bool true)], .agg [.lit (.int .i64 24), .lit (.bool true)], .agg [.lit (.int .i64 6), .lit (.bool false)]]

/-- 'cartouchelaw23.LayoutStarts': WHATEVER THE INPUT: true; the input reads as it did. -/
def layoutStartsSpec : ChangeSpec := { name := "layoutStarts", fn := fun _ => fun
  | [d] => { results := [.lit (.bool true)], args := [d] }
  | _ => none }
def layoutStartsRow : OpenClaim := { program := "ytpdkpkabdkefcaagreatdoor", sum := "d79864d317488bfeb50e070e0d6aee94abbd90112024ae0032b926c7ed327e2e", func := "cartouche/cartouchelaw23.LayoutStarts", spec := "layoutStarts", unfollowed := true, recurses := true, named := ["cartouche/offs.kinds"], loops := true, apart := false, laid := [("cartouche/offs.kinds", laid_cartouche_offs_kinds)] }
def LayoutStartsSaid : Prop := layoutStartsRow.holds Tryz.pinned (OpenSpec.ofChange layoutStartsSpec)

/-- ITS FALSE NEIGHBOUR: 'it returns false'. Refute it at one input. -/
def layoutStartsWrong : ChangeSpec := { name := "layoutStarts", fn := fun _ => fun
  | [d] => { results := [.lit (.bool false)], args := [d] }
  | _ => none }
def LayoutStartsWrongFalsely : Prop := layoutStartsRow.holds Tryz.pinned (OpenSpec.ofChange layoutStartsWrong)

/-- 'cartouchelaw23.LayoutEnds': WHATEVER THE INPUT: true; the input reads as it did. -/
def layoutEndsSpec : ChangeSpec := { name := "layoutEnds", fn := fun _ => fun
  | [d1, d2] => { results := [.lit (.bool true)], args := [d1, d2] }
  | _ => none }
def layoutEndsRow : OpenClaim := { program := "ytpdkpkabdkefcaagreatdoor", sum := "d79864d317488bfeb50e070e0d6aee94abbd90112024ae0032b926c7ed327e2e", func := "cartouche/cartouchelaw23.LayoutEnds", spec := "layoutEnds", unfollowed := true, recurses := true, named := ["cartouche/offs.kinds"], loops := true, apart := false, laid := [("cartouche/offs.kinds", laid_cartouche_offs_kinds)] }
def LayoutEndsSaid : Prop := layoutEndsRow.holds Tryz.pinned (OpenSpec.ofChange layoutEndsSpec)

/-- ITS FALSE NEIGHBOUR: 'it returns false'. Refute it at one input. -/
def layoutEndsWrong : ChangeSpec := { name := "layoutEnds", fn := fun _ => fun
  | [d1, d2] => { results := [.lit (.bool false)], args := [d1, d2] }
  | _ => none }
def LayoutEndsWrongFalsely : Prop := layoutEndsRow.holds Tryz.pinned (OpenSpec.ofChange layoutEndsWrong)

/-- 'cartouchelaw23.LayoutMore': WHATEVER THE INPUT: true; the input reads as it did. -/
def layoutMoreSpec : ChangeSpec := { name := "layoutMore", fn := fun _ => fun
  | [d1, d2] => { results := [.lit (.bool true)], args := [d1, d2] }
  | _ => none }
def layoutMoreRow : OpenClaim := { program := "ytpdkpkabdkefcaagreatdoor", sum := "d79864d317488bfeb50e070e0d6aee94abbd90112024ae0032b926c7ed327e2e", func := "cartouche/cartouchelaw23.LayoutMore", spec := "layoutMore", unfollowed := true, recurses := true, named := ["cartouche/offs.kinds"], loops := true, apart := false, laid := [("cartouche/offs.kinds", laid_cartouche_offs_kinds)] }
def LayoutMoreSaid : Prop := layoutMoreRow.holds Tryz.pinned (OpenSpec.ofChange layoutMoreSpec)

/-- ITS FALSE NEIGHBOUR: 'it returns false'. Refute it at one input. -/
def layoutMoreWrong : ChangeSpec := { name := "layoutMore", fn := fun _ => fun
  | [d1, d2] => { results := [.lit (.bool false)], args := [d1, d2] }
  | _ => none }
def LayoutMoreWrongFalsely : Prop := layoutMoreRow.holds Tryz.pinned (OpenSpec.ofChange layoutMoreWrong)

/- THE SECOND FORM. 'bulk': how many values and letters a reading holds, each counted each time it is reached (what is shared counts as often as it is met; a slice's spare places count too). A statement '..UptoSaid' is the law's where the arguments, and the package variables that the reading takes, are together of bulk at most 1048576: NARROWER than '..Said'. Prove '..Said' where nothing that the law and all that it calls make is longer than what came in: it says more and counts as full. Else prove '..UptoSaid'. A law counts once. -/
mutual
def uptoBulk {H : Type} : DataW H → Nat
  | .lit (.string bytes) => bytes.length + 1
  | .lit _ => 1
  | .nil => 1
  | .ptr d => uptoBulk d + 1
  | .slice elems spare => uptoBulkAll elems + uptoBulkAll spare + 1
  | .agg parts => uptoBulkAll parts + 1
  | .iface _ d => uptoBulk d + 1
  | .map entries => uptoBulkEntries entries + 1
  | .held _ => 1
def uptoBulkAll {H : Type} : List (DataW H) → Nat
  | [] => 0
  | d :: r => uptoBulk d + uptoBulkAll r
def uptoBulkEntries {H : Type} : List (Lit × DataW H) → Nat
  | [] => 0
  | x :: r => uptoBulkEntry x + uptoBulkEntries r
def uptoBulkEntry {H : Type} : Lit × DataW H → Nat
  | (.string bytes, d) => bytes.length + uptoBulk d + 1
  | (_, d) => uptoBulk d + 1
 end
def uptoSmall : (H : Type) → List (DataW H) → Bool := fun _ ds => decide (uptoBulkAll ds ≤ 1048576)
def OpenSpec.upto (s : _root_.Go.ChangeSpec) : _root_.Go.OpenSpec := { _root_.Go.OpenSpec.ofChange s with cond := some uptoSmall }

/-- 'cartouchelaw23.LayoutStarts', WHERE WHAT IT READS IS OF BULK AT MOST 1048576: true; the input reads as it did. -/
def layoutStartsUptoRow : OpenClaim := { program := "ytpdkpkabdkefcaagreatdoor", sum := "d79864d317488bfeb50e070e0d6aee94abbd90112024ae0032b926c7ed327e2e", func := "cartouche/cartouchelaw23.LayoutStarts", spec := "layoutStarts", unfollowed := true, recurses := true, named := ["cartouche/offs.kinds"], loops := true, apart := false, laid := [("cartouche/offs.kinds", laid_cartouche_offs_kinds)], narrowed := true }
def LayoutStartsUptoSaid : Prop := layoutStartsUptoRow.holds Tryz.pinned (OpenSpec.upto layoutStartsSpec)

/-- 'cartouchelaw23.LayoutEnds', WHERE WHAT IT READS IS OF BULK AT MOST 1048576: true; the input reads as it did. -/
def layoutEndsUptoRow : OpenClaim := { program := "ytpdkpkabdkefcaagreatdoor", sum := "d79864d317488bfeb50e070e0d6aee94abbd90112024ae0032b926c7ed327e2e", func := "cartouche/cartouchelaw23.LayoutEnds", spec := "layoutEnds", unfollowed := true, recurses := true, named := ["cartouche/offs.kinds"], loops := true, apart := false, laid := [("cartouche/offs.kinds", laid_cartouche_offs_kinds)], narrowed := true }
def LayoutEndsUptoSaid : Prop := layoutEndsUptoRow.holds Tryz.pinned (OpenSpec.upto layoutEndsSpec)

/-- 'cartouchelaw23.LayoutMore', WHERE WHAT IT READS IS OF BULK AT MOST 1048576: true; the input reads as it did. -/
def layoutMoreUptoRow : OpenClaim := { program := "ytpdkpkabdkefcaagreatdoor", sum := "d79864d317488bfeb50e070e0d6aee94abbd90112024ae0032b926c7ed327e2e", func := "cartouche/cartouchelaw23.LayoutMore", spec := "layoutMore", unfollowed := true, recurses := true, named := ["cartouche/offs.kinds"], loops := true, apart := false, laid := [("cartouche/offs.kinds", laid_cartouche_offs_kinds)], narrowed := true }
def LayoutMoreUptoSaid : Prop := layoutMoreUptoRow.holds Tryz.pinned (OpenSpec.upto layoutMoreSpec)

end Rows
end Go.Proofs.YtpdkpkabdkefcaaGreatDoor
