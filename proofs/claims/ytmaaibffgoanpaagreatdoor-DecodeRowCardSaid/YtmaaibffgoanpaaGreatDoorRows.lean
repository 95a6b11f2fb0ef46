/-
  NARROWER THAN 'FOR EVERY INPUT', by the rows' own cells (each row's printed sentence says how): DecodeBack: laid · DecodeRow: laid.
  DERIVED. THE GIVEN ROWS OF THIS SEAT. 2 by the template 'for every input the law returns true; each argument reads behind the call as it read before'; 0 by the template 'total and deterministic' (their statements: YtmaaibffgoanpaaGreatDoorTotals.lean).
  GIVEN WITH THE SEED: the statements are not yours to turn. If you find one false, say at which input.
  Laid BY PROGRAM, IN A SANDBOX (cutbox-rows.mjs): the forced cells as the released guide's own fill.sh prints them over the translation b160eb82ce34f3af… (all of the seat's roots in one cut). By AI agents, Wed Nov 11 2026. No macro, syntax, notation, axiom, sorry.
-/
import Derived.Test.YtmaaibffgoanpaaGreatDoorChecked
import GoSem.Claim
import GoSem.ClaimJoined
import GoSem.ClaimMapViews
import Derived.JoinedTies
import Derived.KernelRfl
namespace Go.Proofs.YtmaaibffgoanpaaGreatDoor
/- THE CELL 'sum', in the pinned program and in every row, IS THE sha256 OF THE DUMP (.gsa) THAT YtmaaibffgoanpaaGreatDoorProg.lean LOADS. Nothing in Lean hashes anything: it is a label: what it is worth is what the hold of that sum in a sandbox is worth. -/
noncomputable def Tryz.pinned : Pinned := { name := "ytmaaibffgoanpaagreatdoor", sum := "b160eb82ce34f3afe74413fbd235e66c3449d02bbd6f9d4658917ee1e8ed938b", checked := Tryz.checked }
namespace Rows
def none {H : Type} : Left H := { results := [], args := [] }

/- WHAT THE LISTED PACKAGE-LEVEL VARIABLES READ AS WHEN THE CALL BEGINS. Each datum BY PROGRAM (the guide's laid-datum.mjs) off the statement by which the dump's own 'gosem.cut.vars' lays the variable. In a bare row this is a premise. The card (YtmaaibffgoanpaaGreatDoorCards.lean) ties it to the program's text. -/
def laid_cartouche_offs_kinds {H : Type} : DataW H := .agg [.agg [.lit (.int .i64 0), .lit (.bool false)], .agg [.lit (.int .i64 8), .lit (.bool true)], .agg [.lit (.int .i64 11), .lit (.bool true)], .agg [.lit (.int .i64 20), .lit (.bool true)], .agg [.lit (.int .i64 24), .lit (.bool true)], .agg [.lit (.int .i64 6), .lit (.bool false)]]

/-- 'cartouchelaw12.DecodeBack': WHATEVER THE INPUT: true; the input reads as it did. -/
def decodeBackSpec : ChangeSpec := { name := "decodeBack", fn := fun _ => fun
  | [d1, d2, d3] => { results := [.lit (.bool true)], args := [d1, d2, d3] }
  | _ => none }
def decodeBackRow : OpenClaim := { program := "ytmaaibffgoanpaagreatdoor", sum := "b160eb82ce34f3afe74413fbd235e66c3449d02bbd6f9d4658917ee1e8ed938b", func := "cartouche/cartouchelaw12.DecodeBack", spec := "decodeBack", unfollowed := true, recurses := true, named := ["cartouche/offs.kinds"], apart := false, laid := [("cartouche/offs.kinds", laid_cartouche_offs_kinds)] }
def DecodeBackSaid : Prop := decodeBackRow.holds Tryz.pinned (OpenSpec.ofChange decodeBackSpec)

/-- ITS FALSE NEIGHBOUR: 'it returns false'. Refute it at one input. -/
def decodeBackWrong : ChangeSpec := { name := "decodeBack", fn := fun _ => fun
  | [d1, d2, d3] => { results := [.lit (.bool false)], args := [d1, d2, d3] }
  | _ => none }
def DecodeBackWrongFalsely : Prop := decodeBackRow.holds Tryz.pinned (OpenSpec.ofChange decodeBackWrong)

/-- 'cartouchelaw12.DecodeRow': WHATEVER THE INPUT: true; the input reads as it did. -/
def decodeRowSpec : ChangeSpec := { name := "decodeRow", fn := fun _ => fun
  | [d] => { results := [.lit (.bool true)], args := [d] }
  | _ => none }
def decodeRowRow : OpenClaim := { program := "ytmaaibffgoanpaagreatdoor", sum := "b160eb82ce34f3afe74413fbd235e66c3449d02bbd6f9d4658917ee1e8ed938b", func := "cartouche/cartouchelaw12.DecodeRow", spec := "decodeRow", unfollowed := true, recurses := true, named := ["cartouche/offs.kinds"], apart := false, laid := [("cartouche/offs.kinds", laid_cartouche_offs_kinds)] }
def DecodeRowSaid : Prop := decodeRowRow.holds Tryz.pinned (OpenSpec.ofChange decodeRowSpec)

/-- ITS FALSE NEIGHBOUR: 'it returns false'. Refute it at one input. -/
def decodeRowWrong : ChangeSpec := { name := "decodeRow", fn := fun _ => fun
  | [d] => { results := [.lit (.bool false)], args := [d] }
  | _ => none }
def DecodeRowWrongFalsely : Prop := decodeRowRow.holds Tryz.pinned (OpenSpec.ofChange decodeRowWrong)

/- THE SECOND FORM. 'bulk': how many values and letters a reading holds, each counted each time it is reached (what is shared counts as often as it is met; a slice's spare places count too). A statement '..UptoSaid' is the law's where the arguments, and the package variables that the reading takes, are together of bulk at most 1048576: NARROWER than '..Said'. Prove '..Said' where nothing that the law and all that it calls make is longer than what came in: it says more and counts as full. Else prove '..UptoSaid'. A law counts once. -/
mutual
def uptoBulk {H : Type} : DataW H → Nat
  | .lit (.string bytes) => bytes.length + 1
  | .lit _ => 1
  | .nil => 1
  | .ptr d => uptoBulk d + 1
  | .slice elems spare => uptoBulkAll elems + uptoBulkAll spare + 1
  | .agg parts => uptoBulkAll parts + 1
  | .iface _ d => uptoBulk d + 1
  | .map entries => uptoBulkEntries entries + 1
  | .held _ => 1
def uptoBulkAll {H : Type} : List (DataW H) → Nat
  | [] => 0
  | d :: r => uptoBulk d + uptoBulkAll r
def uptoBulkEntries {H : Type} : List (Lit × DataW H) → Nat
  | [] => 0
  | x :: r => uptoBulkEntry x + uptoBulkEntries r
def uptoBulkEntry {H : Type} : Lit × DataW H → Nat
  | (.string bytes, d) => bytes.length + uptoBulk d + 1
  | (_, d) => uptoBulk d + 1
 end
def uptoSmall : (H : Type) → List (DataW H) → Bool := fun _ ds => decide (uptoBulkAll ds ≤ 1048576)
def OpenSpec.upto (s : _root_.Go.ChangeSpec) : _root_.Go.OpenSpec := { _root_.Go.OpenSpec.ofChange s with cond := some uptoSmall }

/-- 'cartouchelaw12.DecodeBack', WHERE WHAT IT READS IS OF BULK AT MOST 1048576: true; the input reads as it did. -/
def decodeBackUptoRow : OpenClaim := { program := "ytmaaibffgoanpaagreatdoor", sum := "b160eb82ce34f3afe74413fbd235e66c3449d02bbd6f9d4658917ee1e8ed938b", func := "cartouche/cartouchelaw12.DecodeBack", spec := "decodeBack", unfollowed := true, recurses := true, named := ["cartouche/offs.kinds"], apart := false, laid := [("cartouche/offs.kinds", laid_cartouche_offs_kinds)], narrowed := true }
def DecodeBackUptoSaid : Prop := decodeBackUptoRow.holds Tryz.pinned (OpenSpec.upto decodeBackSpec)

/-- 'cartouchelaw12.DecodeRow', WHERE WHAT IT READS IS OF BULK AT MOST 1048576: true; the input reads as it did. -/
def decodeRowUptoRow : OpenClaim := { program := "ytmaaibffgoanpaagreatdoor", sum := "b160eb82ce34f3afe74413fbd235e66c3449d02bbd6f9d4658917ee1e8ed938b", func := "cartouche/cartouchelaw12.DecodeRow", spec := "decodeRow", unfollowed := true, recurses := true, named := ["cartouche/offs.kinds"], apart := false, laid := [("cartouche/offs.kinds", laid_cartouche_offs_kinds)], narrowed := true }
def DecodeRowUptoSaid : Prop := decodeRowUptoRow.holds Tryz.pinned (OpenSpec.upto decodeRowSpec)

end Rows
end Go.Proofs.YtmaaibffgoanpaaGreatDoor
