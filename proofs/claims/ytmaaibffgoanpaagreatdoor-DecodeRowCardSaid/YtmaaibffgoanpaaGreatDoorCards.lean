/-
  DERIVED. GIVEN WITH THE SEED: THE CARDS: each row of YtmaaibffgoanpaaGreatDoorRows.lean that lists a variable, with what it lists TIED to the program's text (the seventh form; the later family's looks); each row that meets fmt, with fmt's text TOLD by the authors' own Lean function (tested against real Go, not proved from fmt's source: count such statements apart). THE CARD IS WHAT COUNTS. Prove the row's statement (the work); the ties are given (YtmaaibffgoanpaaGreatDoorTie.lean); close each card by the builder's one call (the guide's Derived/Test/ToyasCard.lean, 'card_holds'). Laid BY PROGRAM, IN A SANDBOX (cutbox-door.mjs). By AI agents, Wed Nov 11 2026. No macro, syntax, notation, axiom, sorry.
-/
import Derived.Test.YtmaaibffgoanpaaGreatDoorRows
import GoSem.ClaimSeven
namespace Go.Proofs.YtmaaibffgoanpaaGreatDoor
namespace Rows

/-- THE TIED CARD OF 'cartouchelaw12.DecodeBack'. -/
def decodeBackCard : Claim7 := { stood := { row := decodeBackRow, standIns := [], harness := (true, "a3d59248f7a34bcff598d3d4d9902b7c38a3e90fd25ba206e730cb404c0124c1"), looks := false }, kinds := [], alts := [], laidByText := true, laidKinds := [.data], laidTests := true, laidLooks := .later }
def DecodeBackCardSaid : Prop := Claim7.holds Tryz.pinned (.plain (OpenSpec.ofChange decodeBackSpec)) decodeBackCard

/-- THE TIED CARD OF 'cartouchelaw12.DecodeRow'. -/
def decodeRowCard : Claim7 := { stood := { row := decodeRowRow, standIns := [], harness := (true, "a3d59248f7a34bcff598d3d4d9902b7c38a3e90fd25ba206e730cb404c0124c1"), looks := false }, kinds := [], alts := [], laidByText := true, laidKinds := [.data], laidTests := true, laidLooks := .later }
def DecodeRowCardSaid : Prop := Claim7.holds Tryz.pinned (.plain (OpenSpec.ofChange decodeRowSpec)) decodeRowCard

/-- THE SECOND FORM's CARD OF 'cartouchelaw12.DecodeBack'. -/
def decodeBackUptoCard : Claim7 := { stood := { row := decodeBackUptoRow, standIns := [], harness := (true, "a3d59248f7a34bcff598d3d4d9902b7c38a3e90fd25ba206e730cb404c0124c1"), looks := false }, kinds := [], alts := [], laidByText := true, laidKinds := [.data], laidTests := true, laidLooks := .later }
def DecodeBackUptoCardSaid : Prop := Claim7.holds Tryz.pinned (.plain (OpenSpec.upto decodeBackSpec)) decodeBackUptoCard

/-- THE SECOND FORM's CARD OF 'cartouchelaw12.DecodeRow'. -/
def decodeRowUptoCard : Claim7 := { stood := { row := decodeRowUptoRow, standIns := [], harness := (true, "a3d59248f7a34bcff598d3d4d9902b7c38a3e90fd25ba206e730cb404c0124c1"), looks := false }, kinds := [], alts := [], laidByText := true, laidKinds := [.data], laidTests := true, laidLooks := .later }
def DecodeRowUptoCardSaid : Prop := Claim7.holds Tryz.pinned (.plain (OpenSpec.upto decodeRowSpec)) decodeRowUptoCard
end Rows
end Go.Proofs.YtmaaibffgoanpaaGreatDoor
