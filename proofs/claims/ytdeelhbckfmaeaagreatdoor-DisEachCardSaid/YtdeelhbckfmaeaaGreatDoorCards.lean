/-
  DERIVED. GIVEN WITH THE SEED: THE CARDS: each row of YtdeelhbckfmaeaaGreatDoorRows.lean that lists a variable, with what it lists TIED to the program's text (the seventh form; the later family's looks); each row that meets fmt, with fmt's text TOLD by the authors' own Lean function (tested against real Go, not proved from fmt's source: count such statements apart). THE CARD IS WHAT COUNTS. Prove the row's statement (the work); the ties are given (YtdeelhbckfmaeaaGreatDoorTie.lean); close each card by the builder's one call (the guide's Derived/Test/ToyasCard.lean, 'card_holds'). Laid BY PROGRAM, IN A SANDBOX (cutbox-door.mjs). By AI agents, Wed Nov 11 2026. No macro, syntax, notation, axiom, sorry.
-/
import Derived.Test.YtdeelhbckfmaeaaGreatDoorRows
import GoSem.ClaimSeven
namespace Go.Proofs.YtdeelhbckfmaeaaGreatDoor
namespace Rows

/-- THE TIED CARD OF 'cartouchelaw25.CheckerFlips'. -/
def checkerFlipsCard : Claim7 := { stood := { row := checkerFlipsRow, standIns := [], harness := (true, "e50dffc3d95c5244bb103e50b948096c21be7792e16a25e759cfe2cd74cd5c3a"), looks := true }, kinds := [], alts := [], laidByText := true, laidKinds := [.data], laidTests := true, laidLooks := .later }
def CheckerFlipsCardSaid : Prop := Claim7.holds Tryz.pinned (.plain (OpenSpec.ofChange checkerFlipsSpec)) checkerFlipsCard

/-- THE TIED CARD OF 'cartouchelaw27.DisLabels'. -/
def disLabelsCard : Claim7 := { stood := { row := disLabelsRow, standIns := [], harness := (true, "e50dffc3d95c5244bb103e50b948096c21be7792e16a25e759cfe2cd74cd5c3a"), looks := true }, kinds := [], alts := [], laidByText := true, laidKinds := [.data, .listed, .data, .pinned], laidTests := true, laidLooks := .later }
def DisLabelsCardSaid : Prop := Claim7.holds Tryz.pinned (.plain (OpenSpec.ofChange disLabelsSpec)) disLabelsCard

/-- THE TIED CARD OF 'cartouchelaw27.DisEach'. -/
def disEachCard : Claim7 := { stood := { row := disEachRow, standIns := [], harness := (true, "e50dffc3d95c5244bb103e50b948096c21be7792e16a25e759cfe2cd74cd5c3a"), looks := true }, kinds := [], alts := [], laidByText := true, laidKinds := [.data, .listed, .data, .pinned], laidTests := true, laidLooks := .later }
def DisEachCardSaid : Prop := Claim7.holds Tryz.pinned (.plain (OpenSpec.ofChange disEachSpec)) disEachCard

/-- THE SECOND FORM's CARD OF 'cartouchelaw25.CheckerFlips'. -/
def checkerFlipsUptoCard : Claim7 := { stood := { row := checkerFlipsUptoRow, standIns := [], harness := (true, "e50dffc3d95c5244bb103e50b948096c21be7792e16a25e759cfe2cd74cd5c3a"), looks := true }, kinds := [], alts := [], laidByText := true, laidKinds := [.data], laidTests := true, laidLooks := .later }
def CheckerFlipsUptoCardSaid : Prop := Claim7.holds Tryz.pinned (.plain (OpenSpec.upto checkerFlipsSpec)) checkerFlipsUptoCard

/-- THE SECOND FORM's CARD OF 'cartouchelaw27.DisLabels'. -/
def disLabelsUptoCard : Claim7 := { stood := { row := disLabelsUptoRow, standIns := [], harness := (true, "e50dffc3d95c5244bb103e50b948096c21be7792e16a25e759cfe2cd74cd5c3a"), looks := true }, kinds := [], alts := [], laidByText := true, laidKinds := [.data, .listed, .data, .pinned], laidTests := true, laidLooks := .later }
def DisLabelsUptoCardSaid : Prop := Claim7.holds Tryz.pinned (.plain (OpenSpec.upto disLabelsSpec)) disLabelsUptoCard

/-- THE SECOND FORM's CARD OF 'cartouchelaw27.DisEach'. -/
def disEachUptoCard : Claim7 := { stood := { row := disEachUptoRow, standIns := [], harness := (true, "e50dffc3d95c5244bb103e50b948096c21be7792e16a25e759cfe2cd74cd5c3a"), looks := true }, kinds := [], alts := [], laidByText := true, laidKinds := [.data, .listed, .data, .pinned], laidTests := true, laidLooks := .later }
def DisEachUptoCardSaid : Prop := Claim7.holds Tryz.pinned (.plain (OpenSpec.upto disEachSpec)) disEachUptoCard
end Rows
end Go.Proofs.YtdeelhbckfmaeaaGreatDoor
