/-
  DERIVED. GIVEN WITH THE SEED: THE CARDS: each row of YtnpfihlaocpcfaaGreatDoorRows.lean that lists a variable, with what it lists TIED to the program's text (the seventh form; the later family's looks); each row that meets fmt, with fmt's text TOLD by the authors' own Lean function (tested against real Go, not proved from fmt's source: count such statements apart). THE CARD IS WHAT COUNTS. Prove the row's statement (the work); the ties are given (YtnpfihlaocpcfaaGreatDoorTie.lean); close each card by the builder's one call (the guide's Derived/Test/ToyasCard.lean, 'card_holds'). Laid BY PROGRAM, IN A SANDBOX (cutbox-door.mjs). By AI agents, Wed Nov 11 2026. No macro, syntax, notation, axiom, sorry.
-/
import Derived.Test.YtnpfihlaocpcfaaGreatDoorRows
import GoSem.ClaimSeven
namespace Go.Proofs.YtnpfihlaocpcfaaGreatDoor
namespace Rows

/-- THE TIED CARD OF 'cartouchelaw25.CheckerFlips'. -/
def checkerFlipsCard : Claim7 := { stood := { row := checkerFlipsRow, standIns := [], harness := (true, "864f00a14bccc5efa04669977b86f8b8f8fe7becea85eda00f5d73d256e55283"), looks := false }, kinds := [], alts := [], laidByText := true, laidKinds := [.data], laidTests := true, laidLooks := .later }
def CheckerFlipsCardSaid : Prop := Claim7.holds Tryz.pinned (.plain (OpenSpec.ofChange checkerFlipsSpec)) checkerFlipsCard

/-- THE SECOND FORM's CARD OF 'cartouchelaw25.CheckerFlips'. -/
def checkerFlipsUptoCard : Claim7 := { stood := { row := checkerFlipsUptoRow, standIns := [], harness := (true, "864f00a14bccc5efa04669977b86f8b8f8fe7becea85eda00f5d73d256e55283"), looks := false }, kinds := [], alts := [], laidByText := true, laidKinds := [.data], laidTests := true, laidLooks := .later }
def CheckerFlipsUptoCardSaid : Prop := Claim7.holds Tryz.pinned (.plain (OpenSpec.upto checkerFlipsSpec)) checkerFlipsUptoCard
end Rows
end Go.Proofs.YtnpfihlaocpcfaaGreatDoor
