/-
  DERIVED. GIVEN WITH THE SEED: THE CARDS: each row of YtiicniiecomhjaaDoorRows.lean that lists a variable, with what it lists TIED to the program's text (the seventh form; the later family's looks); each row that meets fmt, with fmt's text TOLD by the authors' own Lean function (tested against real Go, not proved from fmt's source: count such statements apart). THE CARD IS WHAT COUNTS. Prove the row's statement (the work); the ties are given (YtiicniiecomhjaaDoorTie.lean); close each card by the builder's one call (the guide's Derived/Test/ToyasCard.lean, 'card_holds'). Laid BY PROGRAM, IN A SANDBOX (cutbox-door.mjs). By AI agents, Wed Nov 11 2026. No macro, syntax, notation, axiom, sorry.
-/
import Derived.Test.YtiicniiecomhjaaDoorRows
import GoSem.ClaimSeven
namespace Go.Proofs.YtiicniiecomhjaaDoor
namespace Rows

/-- THE TIED CARD OF 'cartouchelaw25.CheckerBoth'. -/
def checkerBothCard : Claim7 := { stood := { row := checkerBothRow, standIns := [], harness := (true, "bf91e65f202eb7fcb9bb264509ae62ff30529ad9533885712aecc33d5072be55"), looks := false }, kinds := [], alts := [], laidByText := true, laidKinds := [.data], laidTests := true, laidLooks := .later }
def CheckerBothCardSaid : Prop := Claim7.holds Tryd.pinned (.plain (OpenSpec.ofChange checkerBothSpec)) checkerBothCard

/-- THE TIED CARD OF 'cartouchelaw25.CheckerShort'. -/
def checkerShortCard : Claim7 := { stood := { row := checkerShortRow, standIns := [], harness := (true, "bf91e65f202eb7fcb9bb264509ae62ff30529ad9533885712aecc33d5072be55"), looks := false }, kinds := [], alts := [], laidByText := true, laidKinds := [.data], laidTests := true, laidLooks := .later }
def CheckerShortCardSaid : Prop := Claim7.holds Tryd.pinned (.plain (OpenSpec.ofChange checkerShortSpec)) checkerShortCard

/-- THE SECOND FORM's CARD OF 'cartouchelaw25.CheckerBoth'. -/
def checkerBothUptoCard : Claim7 := { stood := { row := checkerBothUptoRow, standIns := [], harness := (true, "bf91e65f202eb7fcb9bb264509ae62ff30529ad9533885712aecc33d5072be55"), looks := false }, kinds := [], alts := [], laidByText := true, laidKinds := [.data], laidTests := true, laidLooks := .later }
def CheckerBothUptoCardSaid : Prop := Claim7.holds Tryd.pinned (.plain (OpenSpec.upto checkerBothSpec)) checkerBothUptoCard

/-- THE SECOND FORM's CARD OF 'cartouchelaw25.CheckerShort'. -/
def checkerShortUptoCard : Claim7 := { stood := { row := checkerShortUptoRow, standIns := [], harness := (true, "bf91e65f202eb7fcb9bb264509ae62ff30529ad9533885712aecc33d5072be55"), looks := false }, kinds := [], alts := [], laidByText := true, laidKinds := [.data], laidTests := true, laidLooks := .later }
def CheckerShortUptoCardSaid : Prop := Claim7.holds Tryd.pinned (.plain (OpenSpec.upto checkerShortSpec)) checkerShortUptoCard
end Rows
end Go.Proofs.YtiicniiecomhjaaDoor
