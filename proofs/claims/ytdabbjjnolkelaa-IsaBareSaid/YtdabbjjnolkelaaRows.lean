/-
  No cell of these rows narrows 'for every input' (looked for: loops, veiled, ifaces, maps, wideKeys, modest, calm, conditions, laid).
  DERIVED. THE GIVEN ROWS OF THIS SEAT. 4 by the template 'for every input the law returns true; each argument reads behind the call as it read before'; 0 by the template 'total and deterministic' (their statements: YtdabbjjnolkelaaTotals.lean).
  GIVEN WITH THE SEED: the statements are not yours to turn. If you find one false, say at which input.
  Laid BY PROGRAM, IN A SANDBOX (cutbox-rows.mjs): the forced cells as the released guide's own fill.sh prints them over the translation f7eae4713a184ec2… (all of the seat's roots in one cut). By AI agents, Wed Nov 11 2026. No macro, syntax, notation, axiom, sorry.
-/
import Derived.Test.YtdabbjjnolkelaaChecked
import GoSem.Claim
import GoSem.ClaimJoined
import GoSem.ClaimMapViews
import Derived.JoinedTies
import Derived.KernelRfl
namespace Go.Proofs.Ytdabbjjnolkelaa
/- THE CELL 'sum', in the pinned program and in every row, IS THE sha256 OF THE DUMP (.gsa) THAT YtdabbjjnolkelaaProg.lean LOADS. Nothing in Lean hashes anything: it is a label: what it is worth is what the hold of that sum in a sandbox is worth. -/
noncomputable def Try.pinned : Pinned := { name := "ytdabbjjnolkelaa", sum := "f7eae4713a184ec27763b488989ca5183d7d503397d6e7cfcce9581791ccaad8", checked := Try.checked }
namespace Rows
def none {H : Type} : Left H := { results := [], args := [] }

/-- 'cartouchelaw06.IsaNames': WHATEVER THE INPUT: true; the input reads as it did. -/
def isaNamesSpec : ChangeSpec := { name := "isaNames", fn := fun _ => fun
  | [d1, d2] => { results := [.lit (.bool true)], args := [d1, d2] }
  | _ => none }
def isaNamesRow : OpenClaim := { program := "ytdabbjjnolkelaa", sum := "f7eae4713a184ec27763b488989ca5183d7d503397d6e7cfcce9581791ccaad8", func := "cartouche/cartouchelaw06.IsaNames", spec := "isaNames", apart := false }
def IsaNamesSaid : Prop := isaNamesRow.holds Try.pinned (OpenSpec.ofChange isaNamesSpec)

/-- ITS FALSE NEIGHBOUR: 'it returns false'. Refute it at one input. -/
def isaNamesWrong : ChangeSpec := { name := "isaNames", fn := fun _ => fun
  | [d1, d2] => { results := [.lit (.bool false)], args := [d1, d2] }
  | _ => none }
def IsaNamesWrongFalsely : Prop := isaNamesRow.holds Try.pinned (OpenSpec.ofChange isaNamesWrong)

/-- 'cartouchelaw06.IsaBack': WHATEVER THE INPUT: true; the input reads as it did. -/
def isaBackSpec : ChangeSpec := { name := "isaBack", fn := fun _ => fun
  | [d] => { results := [.lit (.bool true)], args := [d] }
  | _ => none }
def isaBackRow : OpenClaim := { program := "ytdabbjjnolkelaa", sum := "f7eae4713a184ec27763b488989ca5183d7d503397d6e7cfcce9581791ccaad8", func := "cartouche/cartouchelaw06.IsaBack", spec := "isaBack", apart := false }
def IsaBackSaid : Prop := isaBackRow.holds Try.pinned (OpenSpec.ofChange isaBackSpec)

/-- ITS FALSE NEIGHBOUR: 'it returns false'. Refute it at one input. -/
def isaBackWrong : ChangeSpec := { name := "isaBack", fn := fun _ => fun
  | [d] => { results := [.lit (.bool false)], args := [d] }
  | _ => none }
def IsaBackWrongFalsely : Prop := isaBackRow.holds Try.pinned (OpenSpec.ofChange isaBackWrong)

/-- 'cartouchelaw06.IsaBare': WHATEVER THE INPUT: true; the input reads as it did. -/
def isaBareSpec : ChangeSpec := { name := "isaBare", fn := fun _ => fun
  | [d] => { results := [.lit (.bool true)], args := [d] }
  | _ => none }
def isaBareRow : OpenClaim := { program := "ytdabbjjnolkelaa", sum := "f7eae4713a184ec27763b488989ca5183d7d503397d6e7cfcce9581791ccaad8", func := "cartouche/cartouchelaw06.IsaBare", spec := "isaBare", apart := false }
def IsaBareSaid : Prop := isaBareRow.holds Try.pinned (OpenSpec.ofChange isaBareSpec)

/-- ITS FALSE NEIGHBOUR: 'it returns false'. Refute it at one input. -/
def isaBareWrong : ChangeSpec := { name := "isaBare", fn := fun _ => fun
  | [d] => { results := [.lit (.bool false)], args := [d] }
  | _ => none }
def IsaBareWrongFalsely : Prop := isaBareRow.holds Try.pinned (OpenSpec.ofChange isaBareWrong)

/-- 'cartouchelaw06.IsaPlain': WHATEVER THE INPUT: true; the input reads as it did. -/
def isaPlainSpec : ChangeSpec := { name := "isaPlain", fn := fun _ => fun
  | [d] => { results := [.lit (.bool true)], args := [d] }
  | _ => none }
def isaPlainRow : OpenClaim := { program := "ytdabbjjnolkelaa", sum := "f7eae4713a184ec27763b488989ca5183d7d503397d6e7cfcce9581791ccaad8", func := "cartouche/cartouchelaw06.IsaPlain", spec := "isaPlain", apart := false }
def IsaPlainSaid : Prop := isaPlainRow.holds Try.pinned (OpenSpec.ofChange isaPlainSpec)

/-- ITS FALSE NEIGHBOUR: 'it returns false'. Refute it at one input. -/
def isaPlainWrong : ChangeSpec := { name := "isaPlain", fn := fun _ => fun
  | [d] => { results := [.lit (.bool false)], args := [d] }
  | _ => none }
def IsaPlainWrongFalsely : Prop := isaPlainRow.holds Try.pinned (OpenSpec.ofChange isaPlainWrong)

/- THE SECOND FORM. 'bulk': how many values and letters a reading holds, each counted each time it is reached (what is shared counts as often as it is met; a slice's spare places count too). A statement '..UptoSaid' is the law's where the arguments, and the package variables that the reading takes, are together of bulk at most 1048576: NARROWER than '..Said'. Prove '..Said' where nothing that the law and all that it calls make is longer than what came in: it says more and counts as full. Else prove '..UptoSaid'. A law counts once. -/
mutual
def uptoBulk {H : Type} : DataW H → Nat
  | .lit (.string bytes) => bytes.length + 1
  | .lit _ => 1
  | .nil => 1
  | .ptr d => uptoBulk d + 1
  | .slice elems spare => uptoBulkAll elems + uptoBulkAll spare + 1
  | .agg parts => uptoBulkAll parts + 1
  | .iface _ d => uptoBulk d + 1
  | .map entries => uptoBulkEntries entries + 1
  | .held _ => 1
def uptoBulkAll {H : Type} : List (DataW H) → Nat
  | [] => 0
  | d :: r => uptoBulk d + uptoBulkAll r
def uptoBulkEntries {H : Type} : List (Lit × DataW H) → Nat
  | [] => 0
  | x :: r => uptoBulkEntry x + uptoBulkEntries r
def uptoBulkEntry {H : Type} : Lit × DataW H → Nat
  | (.string bytes, d) => bytes.length + uptoBulk d + 1
  | (_, d) => uptoBulk d + 1
 end
def uptoSmall : (H : Type) → List (DataW H) → Bool := fun _ ds => decide (uptoBulkAll ds ≤ 1048576)
def OpenSpec.upto (s : _root_.Go.ChangeSpec) : _root_.Go.OpenSpec := { _root_.Go.OpenSpec.ofChange s with cond := some uptoSmall }

/-- 'cartouchelaw06.IsaNames', WHERE WHAT IT READS IS OF BULK AT MOST 1048576: true; the input reads as it did. -/
def isaNamesUptoRow : OpenClaim := { program := "ytdabbjjnolkelaa", sum := "f7eae4713a184ec27763b488989ca5183d7d503397d6e7cfcce9581791ccaad8", func := "cartouche/cartouchelaw06.IsaNames", spec := "isaNames", apart := false, narrowed := true }
def IsaNamesUptoSaid : Prop := isaNamesUptoRow.holds Try.pinned (OpenSpec.upto isaNamesSpec)

/-- 'cartouchelaw06.IsaBack', WHERE WHAT IT READS IS OF BULK AT MOST 1048576: true; the input reads as it did. -/
def isaBackUptoRow : OpenClaim := { program := "ytdabbjjnolkelaa", sum := "f7eae4713a184ec27763b488989ca5183d7d503397d6e7cfcce9581791ccaad8", func := "cartouche/cartouchelaw06.IsaBack", spec := "isaBack", apart := false, narrowed := true }
def IsaBackUptoSaid : Prop := isaBackUptoRow.holds Try.pinned (OpenSpec.upto isaBackSpec)

/-- 'cartouchelaw06.IsaBare', WHERE WHAT IT READS IS OF BULK AT MOST 1048576: true; the input reads as it did. -/
def isaBareUptoRow : OpenClaim := { program := "ytdabbjjnolkelaa", sum := "f7eae4713a184ec27763b488989ca5183d7d503397d6e7cfcce9581791ccaad8", func := "cartouche/cartouchelaw06.IsaBare", spec := "isaBare", apart := false, narrowed := true }
def IsaBareUptoSaid : Prop := isaBareUptoRow.holds Try.pinned (OpenSpec.upto isaBareSpec)

/-- 'cartouchelaw06.IsaPlain', WHERE WHAT IT READS IS OF BULK AT MOST 1048576: true; the input reads as it did. -/
def isaPlainUptoRow : OpenClaim := { program := "ytdabbjjnolkelaa", sum := "f7eae4713a184ec27763b488989ca5183d7d503397d6e7cfcce9581791ccaad8", func := "cartouche/cartouchelaw06.IsaPlain", spec := "isaPlain", apart := false, narrowed := true }
def IsaPlainUptoSaid : Prop := isaPlainUptoRow.holds Try.pinned (OpenSpec.upto isaPlainSpec)

end Rows
end Go.Proofs.Ytdabbjjnolkelaa
