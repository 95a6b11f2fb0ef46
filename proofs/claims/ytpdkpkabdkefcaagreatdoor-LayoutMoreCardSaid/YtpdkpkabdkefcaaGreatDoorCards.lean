/-
  DERIVED. GIVEN WITH THE SEED: THE CARDS: each row of YtpdkpkabdkefcaaGreatDoorRows.lean that lists a variable, with what it lists TIED to the program's text (the seventh form; the later family's looks); each row that meets fmt, with fmt's text TOLD by the authors' own Lean function (tested against real Go, not proved from fmt's source: count such statements apart). THE CARD IS WHAT COUNTS. Prove the row's statement (the work); the ties are given (YtpdkpkabdkefcaaGreatDoorTie.lean); close each card by the builder's one call (the guide's Derived/Test/ToyasCard.lean, 'card_holds'). Laid BY PROGRAM, IN A SANDBOX (cutbox-door.mjs). By AI agents, Wed Nov 11 2026. No macro, syntax, notation, axiom, sorry.
-/
import Derived.Test.YtpdkpkabdkefcaaGreatDoorRows
import GoSem.ClaimSeven
namespace Go.Proofs.YtpdkpkabdkefcaaGreatDoor
namespace Rows

/-- THE TIED CARD OF 'cartouchelaw23.LayoutStarts'. -/
def layoutStartsCard : Claim7 := { stood := { row := layoutStartsRow, standIns := [], harness := (true, "54c126094c0137b721e371cda6b9b81e0c5c523a92dc8b3b199e772204328681"), looks := false }, kinds := [], alts := [], laidByText := true, laidKinds := [.data], laidTests := true, laidLooks := .later }
def LayoutStartsCardSaid : Prop := Claim7.holds Tryz.pinned (.plain (OpenSpec.ofChange layoutStartsSpec)) layoutStartsCard

/-- THE TIED CARD OF 'cartouchelaw23.LayoutEnds'. -/
def layoutEndsCard : Claim7 := { stood := { row := layoutEndsRow, standIns := [], harness := (true, "54c126094c0137b721e371cda6b9b81e0c5c523a92dc8b3b199e772204328681"), looks := false }, kinds := [], alts := [], laidByText := true, laidKinds := [.data], laidTests := true, laidLooks := .later }
def LayoutEndsCardSaid : Prop := Claim7.holds Tryz.pinned (.plain (OpenSpec.ofChange layoutEndsSpec)) layoutEndsCard

/-- THE TIED CARD OF 'cartouchelaw23.LayoutMore'. -/
def layoutMoreCard : Claim7 := { stood := { row := layoutMoreRow, standIns := [], harness := (true, "54c126094c0137b721e371cda6b9b81e0c5c523a92dc8b3b199e772204328681"), looks := false }, kinds := [], alts := [], laidByText := true, laidKinds := [.data], laidTests := true, laidLooks := .later }
def LayoutMoreCardSaid : Prop := Claim7.holds Tryz.pinned (.plain (OpenSpec.ofChange layoutMoreSpec)) layoutMoreCard

/-- THE SECOND FORM's CARD OF 'cartouchelaw23.LayoutStarts'. -/
def layoutStartsUptoCard : Claim7 := { stood := { row := layoutStartsUptoRow, standIns := [], harness := (true, "54c126094c0137b721e371cda6b9b81e0c5c523a92dc8b3b199e772204328681"), looks := false }, kinds := [], alts := [], laidByText := true, laidKinds := [.data], laidTests := true, laidLooks := .later }
def LayoutStartsUptoCardSaid : Prop := Claim7.holds Tryz.pinned (.plain (OpenSpec.upto layoutStartsSpec)) layoutStartsUptoCard

/-- THE SECOND FORM's CARD OF 'cartouchelaw23.LayoutEnds'. -/
def layoutEndsUptoCard : Claim7 := { stood := { row := layoutEndsUptoRow, standIns := [], harness := (true, "54c126094c0137b721e371cda6b9b81e0c5c523a92dc8b3b199e772204328681"), looks := false }, kinds := [], alts := [], laidByText := true, laidKinds := [.data], laidTests := true, laidLooks := .later }
def LayoutEndsUptoCardSaid : Prop := Claim7.holds Tryz.pinned (.plain (OpenSpec.upto layoutEndsSpec)) layoutEndsUptoCard

/-- THE SECOND FORM's CARD OF 'cartouchelaw23.LayoutMore'. -/
def layoutMoreUptoCard : Claim7 := { stood := { row := layoutMoreUptoRow, standIns := [], harness := (true, "54c126094c0137b721e371cda6b9b81e0c5c523a92dc8b3b199e772204328681"), looks := false }, kinds := [], alts := [], laidByText := true, laidKinds := [.data], laidTests := true, laidLooks := .later }
def LayoutMoreUptoCardSaid : Prop := Claim7.holds Tryz.pinned (.plain (OpenSpec.upto layoutMoreSpec)) layoutMoreUptoCard
end Rows
end Go.Proofs.YtpdkpkabdkefcaaGreatDoor
