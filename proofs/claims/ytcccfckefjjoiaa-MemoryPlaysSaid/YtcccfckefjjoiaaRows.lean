/-
  No cell of these rows narrows 'for every input' (looked for: loops, veiled, ifaces, maps, wideKeys, modest, calm, conditions, laid).
  DERIVED. THE GIVEN ROWS OF THIS SEAT. 5 by the template 'for every input the law returns true; each argument reads behind the call as it read before'; 0 by the template 'total and deterministic' (their statements: YtcccfckefjjoiaaTotals.lean).
  GIVEN WITH THE SEED: the statements are not yours to turn. If you find one false, say at which input.
  Laid BY PROGRAM, IN A SANDBOX (cutbox-rows.mjs): the forced cells as the released guide's own fill.sh prints them over the translation 1ea70f910b37a1e2… (all of the seat's roots in one cut). By AI agents, Wed Nov 11 2026. No macro, syntax, notation, axiom, sorry.
-/
import Derived.Test.YtcccfckefjjoiaaChecked
import GoSem.Claim
import GoSem.ClaimJoined
import GoSem.ClaimMapViews
import Derived.JoinedTies
import Derived.KernelRfl
namespace Go.Proofs.Ytcccfckefjjoiaa
/- THE CELL 'sum', in the pinned program and in every row, IS THE sha256 OF THE DUMP (.gsa) THAT YtcccfckefjjoiaaProg.lean LOADS. Nothing in Lean hashes anything: it is a label: what it is worth is what the hold of that sum in a sandbox is worth. -/
noncomputable def Try.pinned : Pinned := { name := "ytcccfckefjjoiaa", sum := "1ea70f910b37a1e28b80d1e2628b80fd7b8646ae30ec2c381b661ee16a89c45d", checked := Try.checked }
namespace Rows
def none {H : Type} : Left H := { results := [], args := [] }

/-- 'cartouchelaw14.MemoryPlays': WHATEVER THE INPUT: true; the input reads as it did. -/
def memoryPlaysSpec : ChangeSpec := { name := "memoryPlays", fn := fun _ => fun
  | [d1, d2] => { results := [.lit (.bool true)], args := [d1, d2] }
  | _ => none }
def memoryPlaysRow : OpenClaim := { program := "ytcccfckefjjoiaa", sum := "1ea70f910b37a1e28b80d1e2628b80fd7b8646ae30ec2c381b661ee16a89c45d", func := "cartouche/cartouchelaw14.MemoryPlays", spec := "memoryPlays", unfollowed := true, recurses := true, plainKeys := false, apart := false }
def MemoryPlaysSaid : Prop := memoryPlaysRow.holds Try.pinned (OpenSpec.ofChange memoryPlaysSpec)

/-- ITS FALSE NEIGHBOUR: 'it returns false'. Refute it at one input. -/
def memoryPlaysWrong : ChangeSpec := { name := "memoryPlays", fn := fun _ => fun
  | [d1, d2] => { results := [.lit (.bool false)], args := [d1, d2] }
  | _ => none }
def MemoryPlaysWrongFalsely : Prop := memoryPlaysRow.holds Try.pinned (OpenSpec.ofChange memoryPlaysWrong)

/-- 'cartouchelaw14.MemoryBack': WHATEVER THE INPUT: true; the input reads as it did. -/
def memoryBackSpec : ChangeSpec := { name := "memoryBack", fn := fun _ => fun
  | [d1, d2, d3] => { results := [.lit (.bool true)], args := [d1, d2, d3] }
  | _ => none }
def memoryBackRow : OpenClaim := { program := "ytcccfckefjjoiaa", sum := "1ea70f910b37a1e28b80d1e2628b80fd7b8646ae30ec2c381b661ee16a89c45d", func := "cartouche/cartouchelaw14.MemoryBack", spec := "memoryBack", unfollowed := true, recurses := true, plainKeys := false, apart := false }
def MemoryBackSaid : Prop := memoryBackRow.holds Try.pinned (OpenSpec.ofChange memoryBackSpec)

/-- ITS FALSE NEIGHBOUR: 'it returns false'. Refute it at one input. -/
def memoryBackWrong : ChangeSpec := { name := "memoryBack", fn := fun _ => fun
  | [d1, d2, d3] => { results := [.lit (.bool false)], args := [d1, d2, d3] }
  | _ => none }
def MemoryBackWrongFalsely : Prop := memoryBackRow.holds Try.pinned (OpenSpec.ofChange memoryBackWrong)

/-- 'cartouchelaw14.MemoryCells': WHATEVER THE INPUT: true; the input reads as it did. -/
def memoryCellsSpec : ChangeSpec := { name := "memoryCells", fn := fun _ => fun
  | [d] => { results := [.lit (.bool true)], args := [d] }
  | _ => none }
def memoryCellsRow : OpenClaim := { program := "ytcccfckefjjoiaa", sum := "1ea70f910b37a1e28b80d1e2628b80fd7b8646ae30ec2c381b661ee16a89c45d", func := "cartouche/cartouchelaw14.MemoryCells", spec := "memoryCells", unfollowed := true, recurses := true, plainKeys := false, apart := false }
def MemoryCellsSaid : Prop := memoryCellsRow.holds Try.pinned (OpenSpec.ofChange memoryCellsSpec)

/-- ITS FALSE NEIGHBOUR: 'it returns false'. Refute it at one input. -/
def memoryCellsWrong : ChangeSpec := { name := "memoryCells", fn := fun _ => fun
  | [d] => { results := [.lit (.bool false)], args := [d] }
  | _ => none }
def MemoryCellsWrongFalsely : Prop := memoryCellsRow.holds Try.pinned (OpenSpec.ofChange memoryCellsWrong)

/-- 'cartouchelaw14.MemoryNone': WHATEVER THE INPUT: true; the input reads as it did. -/
def memoryNoneSpec : ChangeSpec := { name := "memoryNone", fn := fun _ => fun
  | [d] => { results := [.lit (.bool true)], args := [d] }
  | _ => none }
def memoryNoneRow : OpenClaim := { program := "ytcccfckefjjoiaa", sum := "1ea70f910b37a1e28b80d1e2628b80fd7b8646ae30ec2c381b661ee16a89c45d", func := "cartouche/cartouchelaw14.MemoryNone", spec := "memoryNone", unfollowed := true, recurses := true, plainKeys := false, apart := false }
def MemoryNoneSaid : Prop := memoryNoneRow.holds Try.pinned (OpenSpec.ofChange memoryNoneSpec)

/-- ITS FALSE NEIGHBOUR: 'it returns false'. Refute it at one input. -/
def memoryNoneWrong : ChangeSpec := { name := "memoryNone", fn := fun _ => fun
  | [d] => { results := [.lit (.bool false)], args := [d] }
  | _ => none }
def MemoryNoneWrongFalsely : Prop := memoryNoneRow.holds Try.pinned (OpenSpec.ofChange memoryNoneWrong)

/-- 'cartouchelaw14.MemoryHalves': WHATEVER THE INPUT: true; the input reads as it did. -/
def memoryHalvesSpec : ChangeSpec := { name := "memoryHalves", fn := fun _ => fun
  | [d1, d2, d3] => { results := [.lit (.bool true)], args := [d1, d2, d3] }
  | _ => none }
def memoryHalvesRow : OpenClaim := { program := "ytcccfckefjjoiaa", sum := "1ea70f910b37a1e28b80d1e2628b80fd7b8646ae30ec2c381b661ee16a89c45d", func := "cartouche/cartouchelaw14.MemoryHalves", spec := "memoryHalves", unfollowed := true, recurses := true, plainKeys := false, apart := false }
def MemoryHalvesSaid : Prop := memoryHalvesRow.holds Try.pinned (OpenSpec.ofChange memoryHalvesSpec)

/-- ITS FALSE NEIGHBOUR: 'it returns false'. Refute it at one input. -/
def memoryHalvesWrong : ChangeSpec := { name := "memoryHalves", fn := fun _ => fun
  | [d1, d2, d3] => { results := [.lit (.bool false)], args := [d1, d2, d3] }
  | _ => none }
def MemoryHalvesWrongFalsely : Prop := memoryHalvesRow.holds Try.pinned (OpenSpec.ofChange memoryHalvesWrong)

/- THE SECOND FORM. 'bulk': how many values and letters a reading holds, each counted each time it is reached (what is shared counts as often as it is met; a slice's spare places count too). A statement '..UptoSaid' is the law's where the arguments, and the package variables that the reading takes, are together of bulk at most 1048576: NARROWER than '..Said'. Prove '..Said' where nothing that the law and all that it calls make is longer than what came in: it says more and counts as full. Else prove '..UptoSaid'. A law counts once. -/
mutual
def uptoBulk {H : Type} : DataW H → Nat
  | .lit (.string bytes) => bytes.length + 1
  | .lit _ => 1
  | .nil => 1
  | .ptr d => uptoBulk d + 1
  | .slice elems spare => uptoBulkAll elems + uptoBulkAll spare + 1
  | .agg parts => uptoBulkAll parts + 1
  | .iface _ d => uptoBulk d + 1
  | .map entries => uptoBulkEntries entries + 1
  | .held _ => 1
def uptoBulkAll {H : Type} : List (DataW H) → Nat
  | [] => 0
  | d :: r => uptoBulk d + uptoBulkAll r
def uptoBulkEntries {H : Type} : List (Lit × DataW H) → Nat
  | [] => 0
  | x :: r => uptoBulkEntry x + uptoBulkEntries r
def uptoBulkEntry {H : Type} : Lit × DataW H → Nat
  | (.string bytes, d) => bytes.length + uptoBulk d + 1
  | (_, d) => uptoBulk d + 1
 end
def uptoSmall : (H : Type) → List (DataW H) → Bool := fun _ ds => decide (uptoBulkAll ds ≤ 1048576)
def OpenSpec.upto (s : _root_.Go.ChangeSpec) : _root_.Go.OpenSpec := { _root_.Go.OpenSpec.ofChange s with cond := some uptoSmall }

/-- 'cartouchelaw14.MemoryPlays', WHERE WHAT IT READS IS OF BULK AT MOST 1048576: true; the input reads as it did. -/
def memoryPlaysUptoRow : OpenClaim := { program := "ytcccfckefjjoiaa", sum := "1ea70f910b37a1e28b80d1e2628b80fd7b8646ae30ec2c381b661ee16a89c45d", func := "cartouche/cartouchelaw14.MemoryPlays", spec := "memoryPlays", unfollowed := true, recurses := true, plainKeys := false, apart := false, narrowed := true }
def MemoryPlaysUptoSaid : Prop := memoryPlaysUptoRow.holds Try.pinned (OpenSpec.upto memoryPlaysSpec)

/-- 'cartouchelaw14.MemoryBack', WHERE WHAT IT READS IS OF BULK AT MOST 1048576: true; the input reads as it did. -/
def memoryBackUptoRow : OpenClaim := { program := "ytcccfckefjjoiaa", sum := "1ea70f910b37a1e28b80d1e2628b80fd7b8646ae30ec2c381b661ee16a89c45d", func := "cartouche/cartouchelaw14.MemoryBack", spec := "memoryBack", unfollowed := true, recurses := true, plainKeys := false, apart := false, narrowed := true }
def MemoryBackUptoSaid : Prop := memoryBackUptoRow.holds Try.pinned (OpenSpec.upto memoryBackSpec)

/-- 'cartouchelaw14.MemoryCells', WHERE WHAT IT READS IS OF BULK AT MOST 1048576: true; the input reads as it did. -/
def memoryCellsUptoRow : OpenClaim := { program := "ytcccfckefjjoiaa", sum := "1ea70f910b37a1e28b80d1e2628b80fd7b8646ae30ec2c381b661ee16a89c45d", func := "cartouche/cartouchelaw14.MemoryCells", spec := "memoryCells", unfollowed := true, recurses := true, plainKeys := false, apart := false, narrowed := true }
def MemoryCellsUptoSaid : Prop := memoryCellsUptoRow.holds Try.pinned (OpenSpec.upto memoryCellsSpec)

/-- 'cartouchelaw14.MemoryNone', WHERE WHAT IT READS IS OF BULK AT MOST 1048576: true; the input reads as it did. -/
def memoryNoneUptoRow : OpenClaim := { program := "ytcccfckefjjoiaa", sum := "1ea70f910b37a1e28b80d1e2628b80fd7b8646ae30ec2c381b661ee16a89c45d", func := "cartouche/cartouchelaw14.MemoryNone", spec := "memoryNone", unfollowed := true, recurses := true, plainKeys := false, apart := false, narrowed := true }
def MemoryNoneUptoSaid : Prop := memoryNoneUptoRow.holds Try.pinned (OpenSpec.upto memoryNoneSpec)

/-- 'cartouchelaw14.MemoryHalves', WHERE WHAT IT READS IS OF BULK AT MOST 1048576: true; the input reads as it did. -/
def memoryHalvesUptoRow : OpenClaim := { program := "ytcccfckefjjoiaa", sum := "1ea70f910b37a1e28b80d1e2628b80fd7b8646ae30ec2c381b661ee16a89c45d", func := "cartouche/cartouchelaw14.MemoryHalves", spec := "memoryHalves", unfollowed := true, recurses := true, plainKeys := false, apart := false, narrowed := true }
def MemoryHalvesUptoSaid : Prop := memoryHalvesUptoRow.holds Try.pinned (OpenSpec.upto memoryHalvesSpec)

end Rows
end Go.Proofs.Ytcccfckefjjoiaa
