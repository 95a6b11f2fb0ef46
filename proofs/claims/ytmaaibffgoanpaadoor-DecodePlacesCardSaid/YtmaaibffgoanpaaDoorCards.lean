/-
  DERIVED. GIVEN WITH THE SEED: THE CARDS: each row of YtmaaibffgoanpaaDoorRows.lean that lists a variable, with what it lists TIED to the program's text (the seventh form; the later family's looks); each row that meets fmt, with fmt's text TOLD by the authors' own Lean function (tested against real Go, not proved from fmt's source: count such statements apart). THE CARD IS WHAT COUNTS. Prove the row's statement (the work); the ties are given (YtmaaibffgoanpaaDoorTie.lean); close each card by the builder's one call (the guide's Derived/Test/ToyasCard.lean, 'card_holds'). Laid BY PROGRAM, IN A SANDBOX (cutbox-door.mjs). By AI agents, Wed Nov 11 2026. No macro, syntax, notation, axiom, sorry.
-/
import Derived.Test.YtmaaibffgoanpaaDoorRows
import GoSem.ClaimSeven
namespace Go.Proofs.YtmaaibffgoanpaaDoor
namespace Rows

/-- THE TIED CARD OF 'cartouchelaw12.DecodePlaces'. -/
def decodePlacesCard : Claim7 := { stood := { row := decodePlacesRow, standIns := [], harness := (true, "84ecd487e64ec406615d2d8c2804c2dd18a951b1296c9cb3ee7d008cb4bdb71e"), looks := false }, kinds := [], alts := [], laidByText := true, laidKinds := [.data], laidTests := true, laidLooks := .later }
def DecodePlacesCardSaid : Prop := Claim7.holds Tryd.pinned (.plain (OpenSpec.ofChange decodePlacesSpec)) decodePlacesCard

/-- THE SECOND FORM's CARD OF 'cartouchelaw12.DecodePlaces'. -/
def decodePlacesUptoCard : Claim7 := { stood := { row := decodePlacesUptoRow, standIns := [], harness := (true, "84ecd487e64ec406615d2d8c2804c2dd18a951b1296c9cb3ee7d008cb4bdb71e"), looks := false }, kinds := [], alts := [], laidByText := true, laidKinds := [.data], laidTests := true, laidLooks := .later }
def DecodePlacesUptoCardSaid : Prop := Claim7.holds Tryd.pinned (.plain (OpenSpec.upto decodePlacesSpec)) decodePlacesUptoCard
end Rows
end Go.Proofs.YtmaaibffgoanpaaDoor
