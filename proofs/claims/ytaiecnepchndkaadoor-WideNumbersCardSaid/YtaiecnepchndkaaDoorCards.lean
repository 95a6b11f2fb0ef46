/-
  DERIVED. GIVEN WITH THE SEED: THE CARDS: each row of YtaiecnepchndkaaDoorRows.lean that lists a variable, with what it lists TIED to the program's text (the seventh form; the later family's looks); each row that meets fmt, with fmt's text TOLD by the authors' own Lean function (tested against real Go, not proved from fmt's source: count such statements apart). THE CARD IS WHAT COUNTS. Prove the row's statement (the work); the ties are given (YtaiecnepchndkaaDoorTie.lean); close each card by the builder's one call (the guide's Derived/Test/ToyasCard.lean, 'card_holds'). Laid BY PROGRAM, IN A SANDBOX (cutbox-door.mjs). By AI agents, Wed Nov 11 2026. No macro, syntax, notation, axiom, sorry.
-/
import Derived.Test.YtaiecnepchndkaaDoorRows
import GoSem.ClaimSeven
namespace Go.Proofs.YtaiecnepchndkaaDoor
namespace Rows

/-- THE TIED CARD OF 'cartouchelaw10.ShortDecodes'. -/
def shortDecodesCard : Claim7 := { stood := { row := shortDecodesRow, standIns := [], harness := (true, "da8a6907bc181bcdfc693d96b7f41634546629ab9b0d19580363a62b8d88c62b"), looks := false }, kinds := [], alts := [], laidByText := true, laidKinds := [.data], laidTests := true, laidLooks := .later }
def ShortDecodesCardSaid : Prop := Claim7.holds Tryd.pinned (.plain (OpenSpec.ofChange shortDecodesSpec)) shortDecodesCard

/-- THE TIED CARD OF 'cartouchelaw10.ShortBack'. -/
def shortBackCard : Claim7 := { stood := { row := shortBackRow, standIns := [], harness := (true, "da8a6907bc181bcdfc693d96b7f41634546629ab9b0d19580363a62b8d88c62b"), looks := false }, kinds := [], alts := [], laidByText := true, laidKinds := [.data], laidTests := true, laidLooks := .later }
def ShortBackCardSaid : Prop := Claim7.holds Tryd.pinned (.plain (OpenSpec.ofChange shortBackSpec)) shortBackCard

/-- THE TIED CARD OF 'cartouchelaw10.ShortMay'. -/
def shortMayCard : Claim7 := { stood := { row := shortMayRow, standIns := [], harness := (true, "da8a6907bc181bcdfc693d96b7f41634546629ab9b0d19580363a62b8d88c62b"), looks := false }, kinds := [], alts := [], laidByText := true, laidKinds := [.data], laidTests := true, laidLooks := .later }
def ShortMayCardSaid : Prop := Claim7.holds Tryd.pinned (.plain (OpenSpec.ofChange shortMaySpec)) shortMayCard

/-- THE TIED CARD OF 'cartouchelaw10.ShortLong'. -/
def shortLongCard : Claim7 := { stood := { row := shortLongRow, standIns := [], harness := (true, "da8a6907bc181bcdfc693d96b7f41634546629ab9b0d19580363a62b8d88c62b"), looks := false }, kinds := [], alts := [], laidByText := true, laidKinds := [.data], laidTests := true, laidLooks := .later }
def ShortLongCardSaid : Prop := Claim7.holds Tryd.pinned (.plain (OpenSpec.ofChange shortLongSpec)) shortLongCard

/-- THE TIED CARD OF 'cartouchelaw10.ShortBlocks'. -/
def shortBlocksCard : Claim7 := { stood := { row := shortBlocksRow, standIns := [], harness := (true, "da8a6907bc181bcdfc693d96b7f41634546629ab9b0d19580363a62b8d88c62b"), looks := false }, kinds := [], alts := [], laidByText := true, laidKinds := [.data], laidTests := true, laidLooks := .later }
def ShortBlocksCardSaid : Prop := Claim7.holds Tryd.pinned (.plain (OpenSpec.ofChange shortBlocksSpec)) shortBlocksCard

/-- THE TIED CARD OF 'cartouchelaw07.NarrowEncodes'. -/
def narrowEncodesCard : Claim7 := { stood := { row := narrowEncodesRow, standIns := [], harness := (true, "da8a6907bc181bcdfc693d96b7f41634546629ab9b0d19580363a62b8d88c62b"), looks := false }, kinds := [], alts := [], laidByText := true, laidKinds := [.data], laidTests := true, laidLooks := .later }
def NarrowEncodesCardSaid : Prop := Claim7.holds Tryd.pinned (.plain (OpenSpec.ofChange narrowEncodesSpec)) narrowEncodesCard

/-- THE TIED CARD OF 'cartouchelaw07.NarrowHalf'. -/
def narrowHalfCard : Claim7 := { stood := { row := narrowHalfRow, standIns := [], harness := (true, "da8a6907bc181bcdfc693d96b7f41634546629ab9b0d19580363a62b8d88c62b"), looks := false }, kinds := [], alts := [], laidByText := true, laidKinds := [.data], laidTests := true, laidLooks := .later }
def NarrowHalfCardSaid : Prop := Claim7.holds Tryd.pinned (.plain (OpenSpec.ofChange narrowHalfSpec)) narrowHalfCard

/-- THE TIED CARD OF 'cartouchelaw07.NarrowApart'. -/
def narrowApartCard : Claim7 := { stood := { row := narrowApartRow, standIns := [], harness := (true, "da8a6907bc181bcdfc693d96b7f41634546629ab9b0d19580363a62b8d88c62b"), looks := false }, kinds := [], alts := [], laidByText := true, laidKinds := [.data], laidTests := true, laidLooks := .later }
def NarrowApartCardSaid : Prop := Claim7.holds Tryd.pinned (.plain (OpenSpec.ofChange narrowApartSpec)) narrowApartCard

/-- THE TIED CARD OF 'cartouchelaw07.NarrowFlags'. -/
def narrowFlagsCard : Claim7 := { stood := { row := narrowFlagsRow, standIns := [], harness := (true, "da8a6907bc181bcdfc693d96b7f41634546629ab9b0d19580363a62b8d88c62b"), looks := false }, kinds := [], alts := [], laidByText := true, laidKinds := [.data], laidTests := true, laidLooks := .later }
def NarrowFlagsCardSaid : Prop := Claim7.holds Tryd.pinned (.plain (OpenSpec.ofChange narrowFlagsSpec)) narrowFlagsCard

/-- THE TIED CARD OF 'cartouchelaw11.TallLow'. -/
def tallLowCard : Claim7 := { stood := { row := tallLowRow, standIns := [], harness := (true, "da8a6907bc181bcdfc693d96b7f41634546629ab9b0d19580363a62b8d88c62b"), looks := false }, kinds := [], alts := [], laidByText := true, laidKinds := [.data], laidTests := true, laidLooks := .later }
def TallLowCardSaid : Prop := Claim7.holds Tryd.pinned (.plain (OpenSpec.ofChange tallLowSpec)) tallLowCard

/-- THE TIED CARD OF 'cartouchelaw11.TallBlocks'. -/
def tallBlocksCard : Claim7 := { stood := { row := tallBlocksRow, standIns := [], harness := (true, "da8a6907bc181bcdfc693d96b7f41634546629ab9b0d19580363a62b8d88c62b"), looks := false }, kinds := [], alts := [], laidByText := true, laidKinds := [.data], laidTests := true, laidLooks := .later }
def TallBlocksCardSaid : Prop := Claim7.holds Tryd.pinned (.plain (OpenSpec.ofChange tallBlocksSpec)) tallBlocksCard

/-- THE TIED CARD OF 'cartouchelaw08.WideLong'. -/
def wideLongCard : Claim7 := { stood := { row := wideLongRow, standIns := [], harness := (true, "da8a6907bc181bcdfc693d96b7f41634546629ab9b0d19580363a62b8d88c62b"), looks := false }, kinds := [], alts := [], laidByText := true, laidKinds := [.data], laidTests := true, laidLooks := .later }
def WideLongCardSaid : Prop := Claim7.holds Tryd.pinned (.plain (OpenSpec.ofChange wideLongSpec)) wideLongCard

/-- THE TIED CARD OF 'cartouchelaw08.WideApart'. -/
def wideApartCard : Claim7 := { stood := { row := wideApartRow, standIns := [], harness := (true, "da8a6907bc181bcdfc693d96b7f41634546629ab9b0d19580363a62b8d88c62b"), looks := false }, kinds := [], alts := [], laidByText := true, laidKinds := [.data], laidTests := true, laidLooks := .later }
def WideApartCardSaid : Prop := Claim7.holds Tryd.pinned (.plain (OpenSpec.ofChange wideApartSpec)) wideApartCard

/-- THE TIED CARD OF 'cartouchelaw08.WideNumbers'. -/
def wideNumbersCard : Claim7 := { stood := { row := wideNumbersRow, standIns := [], harness := (true, "da8a6907bc181bcdfc693d96b7f41634546629ab9b0d19580363a62b8d88c62b"), looks := false }, kinds := [], alts := [], laidByText := true, laidKinds := [.data], laidTests := true, laidLooks := .later }
def WideNumbersCardSaid : Prop := Claim7.holds Tryd.pinned (.plain (OpenSpec.ofChange wideNumbersSpec)) wideNumbersCard

/-- THE TIED CARD OF 'cartouchelaw08.WideBlocks'. -/
def wideBlocksCard : Claim7 := { stood := { row := wideBlocksRow, standIns := [], harness := (true, "da8a6907bc181bcdfc693d96b7f41634546629ab9b0d19580363a62b8d88c62b"), looks := false }, kinds := [], alts := [], laidByText := true, laidKinds := [.data], laidTests := true, laidLooks := .later }
def WideBlocksCardSaid : Prop := Claim7.holds Tryd.pinned (.plain (OpenSpec.ofChange wideBlocksSpec)) wideBlocksCard

/-- THE TIED CARD OF 'cartouchelaw12.DecodePlaces'. -/
def decodePlacesCard : Claim7 := { stood := { row := decodePlacesRow, standIns := [], harness := (true, "da8a6907bc181bcdfc693d96b7f41634546629ab9b0d19580363a62b8d88c62b"), looks := false }, kinds := [], alts := [], laidByText := true, laidKinds := [.data], laidTests := true, laidLooks := .later }
def DecodePlacesCardSaid : Prop := Claim7.holds Tryd.pinned (.plain (OpenSpec.ofChange decodePlacesSpec)) decodePlacesCard

/-- THE TIED CARD OF 'cartouchelaw09.EncodeApart'. -/
def encodeApartCard : Claim7 := { stood := { row := encodeApartRow, standIns := [], harness := (true, "da8a6907bc181bcdfc693d96b7f41634546629ab9b0d19580363a62b8d88c62b"), looks := false }, kinds := [], alts := [], laidByText := true, laidKinds := [.data], laidTests := true, laidLooks := .later }
def EncodeApartCardSaid : Prop := Claim7.holds Tryd.pinned (.plain (OpenSpec.ofChange encodeApartSpec)) encodeApartCard

/-- THE SECOND FORM's CARD OF 'cartouchelaw10.ShortDecodes'. -/
def shortDecodesUptoCard : Claim7 := { stood := { row := shortDecodesUptoRow, standIns := [], harness := (true, "da8a6907bc181bcdfc693d96b7f41634546629ab9b0d19580363a62b8d88c62b"), looks := false }, kinds := [], alts := [], laidByText := true, laidKinds := [.data], laidTests := true, laidLooks := .later }
def ShortDecodesUptoCardSaid : Prop := Claim7.holds Tryd.pinned (.plain (OpenSpec.upto shortDecodesSpec)) shortDecodesUptoCard

/-- THE SECOND FORM's CARD OF 'cartouchelaw10.ShortBack'. -/
def shortBackUptoCard : Claim7 := { stood := { row := shortBackUptoRow, standIns := [], harness := (true, "da8a6907bc181bcdfc693d96b7f41634546629ab9b0d19580363a62b8d88c62b"), looks := false }, kinds := [], alts := [], laidByText := true, laidKinds := [.data], laidTests := true, laidLooks := .later }
def ShortBackUptoCardSaid : Prop := Claim7.holds Tryd.pinned (.plain (OpenSpec.upto shortBackSpec)) shortBackUptoCard

/-- THE SECOND FORM's CARD OF 'cartouchelaw10.ShortMay'. -/
def shortMayUptoCard : Claim7 := { stood := { row := shortMayUptoRow, standIns := [], harness := (true, "da8a6907bc181bcdfc693d96b7f41634546629ab9b0d19580363a62b8d88c62b"), looks := false }, kinds := [], alts := [], laidByText := true, laidKinds := [.data], laidTests := true, laidLooks := .later }
def ShortMayUptoCardSaid : Prop := Claim7.holds Tryd.pinned (.plain (OpenSpec.upto shortMaySpec)) shortMayUptoCard

/-- THE SECOND FORM's CARD OF 'cartouchelaw10.ShortLong'. -/
def shortLongUptoCard : Claim7 := { stood := { row := shortLongUptoRow, standIns := [], harness := (true, "da8a6907bc181bcdfc693d96b7f41634546629ab9b0d19580363a62b8d88c62b"), looks := false }, kinds := [], alts := [], laidByText := true, laidKinds := [.data], laidTests := true, laidLooks := .later }
def ShortLongUptoCardSaid : Prop := Claim7.holds Tryd.pinned (.plain (OpenSpec.upto shortLongSpec)) shortLongUptoCard

/-- THE SECOND FORM's CARD OF 'cartouchelaw10.ShortBlocks'. -/
def shortBlocksUptoCard : Claim7 := { stood := { row := shortBlocksUptoRow, standIns := [], harness := (true, "da8a6907bc181bcdfc693d96b7f41634546629ab9b0d19580363a62b8d88c62b"), looks := false }, kinds := [], alts := [], laidByText := true, laidKinds := [.data], laidTests := true, laidLooks := .later }
def ShortBlocksUptoCardSaid : Prop := Claim7.holds Tryd.pinned (.plain (OpenSpec.upto shortBlocksSpec)) shortBlocksUptoCard

/-- THE SECOND FORM's CARD OF 'cartouchelaw07.NarrowEncodes'. -/
def narrowEncodesUptoCard : Claim7 := { stood := { row := narrowEncodesUptoRow, standIns := [], harness := (true, "da8a6907bc181bcdfc693d96b7f41634546629ab9b0d19580363a62b8d88c62b"), looks := false }, kinds := [], alts := [], laidByText := true, laidKinds := [.data], laidTests := true, laidLooks := .later }
def NarrowEncodesUptoCardSaid : Prop := Claim7.holds Tryd.pinned (.plain (OpenSpec.upto narrowEncodesSpec)) narrowEncodesUptoCard

/-- THE SECOND FORM's CARD OF 'cartouchelaw07.NarrowHalf'. -/
def narrowHalfUptoCard : Claim7 := { stood := { row := narrowHalfUptoRow, standIns := [], harness := (true, "da8a6907bc181bcdfc693d96b7f41634546629ab9b0d19580363a62b8d88c62b"), looks := false }, kinds := [], alts := [], laidByText := true, laidKinds := [.data], laidTests := true, laidLooks := .later }
def NarrowHalfUptoCardSaid : Prop := Claim7.holds Tryd.pinned (.plain (OpenSpec.upto narrowHalfSpec)) narrowHalfUptoCard

/-- THE SECOND FORM's CARD OF 'cartouchelaw07.NarrowApart'. -/
def narrowApartUptoCard : Claim7 := { stood := { row := narrowApartUptoRow, standIns := [], harness := (true, "da8a6907bc181bcdfc693d96b7f41634546629ab9b0d19580363a62b8d88c62b"), looks := false }, kinds := [], alts := [], laidByText := true, laidKinds := [.data], laidTests := true, laidLooks := .later }
def NarrowApartUptoCardSaid : Prop := Claim7.holds Tryd.pinned (.plain (OpenSpec.upto narrowApartSpec)) narrowApartUptoCard

/-- THE SECOND FORM's CARD OF 'cartouchelaw07.NarrowFlags'. -/
def narrowFlagsUptoCard : Claim7 := { stood := { row := narrowFlagsUptoRow, standIns := [], harness := (true, "da8a6907bc181bcdfc693d96b7f41634546629ab9b0d19580363a62b8d88c62b"), looks := false }, kinds := [], alts := [], laidByText := true, laidKinds := [.data], laidTests := true, laidLooks := .later }
def NarrowFlagsUptoCardSaid : Prop := Claim7.holds Tryd.pinned (.plain (OpenSpec.upto narrowFlagsSpec)) narrowFlagsUptoCard

/-- THE SECOND FORM's CARD OF 'cartouchelaw11.TallLow'. -/
def tallLowUptoCard : Claim7 := { stood := { row := tallLowUptoRow, standIns := [], harness := (true, "da8a6907bc181bcdfc693d96b7f41634546629ab9b0d19580363a62b8d88c62b"), looks := false }, kinds := [], alts := [], laidByText := true, laidKinds := [.data], laidTests := true, laidLooks := .later }
def TallLowUptoCardSaid : Prop := Claim7.holds Tryd.pinned (.plain (OpenSpec.upto tallLowSpec)) tallLowUptoCard

/-- THE SECOND FORM's CARD OF 'cartouchelaw11.TallBlocks'. -/
def tallBlocksUptoCard : Claim7 := { stood := { row := tallBlocksUptoRow, standIns := [], harness := (true, "da8a6907bc181bcdfc693d96b7f41634546629ab9b0d19580363a62b8d88c62b"), looks := false }, kinds := [], alts := [], laidByText := true, laidKinds := [.data], laidTests := true, laidLooks := .later }
def TallBlocksUptoCardSaid : Prop := Claim7.holds Tryd.pinned (.plain (OpenSpec.upto tallBlocksSpec)) tallBlocksUptoCard

/-- THE SECOND FORM's CARD OF 'cartouchelaw08.WideLong'. -/
def wideLongUptoCard : Claim7 := { stood := { row := wideLongUptoRow, standIns := [], harness := (true, "da8a6907bc181bcdfc693d96b7f41634546629ab9b0d19580363a62b8d88c62b"), looks := false }, kinds := [], alts := [], laidByText := true, laidKinds := [.data], laidTests := true, laidLooks := .later }
def WideLongUptoCardSaid : Prop := Claim7.holds Tryd.pinned (.plain (OpenSpec.upto wideLongSpec)) wideLongUptoCard

/-- THE SECOND FORM's CARD OF 'cartouchelaw08.WideApart'. -/
def wideApartUptoCard : Claim7 := { stood := { row := wideApartUptoRow, standIns := [], harness := (true, "da8a6907bc181bcdfc693d96b7f41634546629ab9b0d19580363a62b8d88c62b"), looks := false }, kinds := [], alts := [], laidByText := true, laidKinds := [.data], laidTests := true, laidLooks := .later }
def WideApartUptoCardSaid : Prop := Claim7.holds Tryd.pinned (.plain (OpenSpec.upto wideApartSpec)) wideApartUptoCard

/-- THE SECOND FORM's CARD OF 'cartouchelaw08.WideNumbers'. -/
def wideNumbersUptoCard : Claim7 := { stood := { row := wideNumbersUptoRow, standIns := [], harness := (true, "da8a6907bc181bcdfc693d96b7f41634546629ab9b0d19580363a62b8d88c62b"), looks := false }, kinds := [], alts := [], laidByText := true, laidKinds := [.data], laidTests := true, laidLooks := .later }
def WideNumbersUptoCardSaid : Prop := Claim7.holds Tryd.pinned (.plain (OpenSpec.upto wideNumbersSpec)) wideNumbersUptoCard

/-- THE SECOND FORM's CARD OF 'cartouchelaw08.WideBlocks'. -/
def wideBlocksUptoCard : Claim7 := { stood := { row := wideBlocksUptoRow, standIns := [], harness := (true, "da8a6907bc181bcdfc693d96b7f41634546629ab9b0d19580363a62b8d88c62b"), looks := false }, kinds := [], alts := [], laidByText := true, laidKinds := [.data], laidTests := true, laidLooks := .later }
def WideBlocksUptoCardSaid : Prop := Claim7.holds Tryd.pinned (.plain (OpenSpec.upto wideBlocksSpec)) wideBlocksUptoCard

/-- THE SECOND FORM's CARD OF 'cartouchelaw12.DecodePlaces'. -/
def decodePlacesUptoCard : Claim7 := { stood := { row := decodePlacesUptoRow, standIns := [], harness := (true, "da8a6907bc181bcdfc693d96b7f41634546629ab9b0d19580363a62b8d88c62b"), looks := false }, kinds := [], alts := [], laidByText := true, laidKinds := [.data], laidTests := true, laidLooks := .later }
def DecodePlacesUptoCardSaid : Prop := Claim7.holds Tryd.pinned (.plain (OpenSpec.upto decodePlacesSpec)) decodePlacesUptoCard

/-- THE SECOND FORM's CARD OF 'cartouchelaw09.EncodeApart'. -/
def encodeApartUptoCard : Claim7 := { stood := { row := encodeApartUptoRow, standIns := [], harness := (true, "da8a6907bc181bcdfc693d96b7f41634546629ab9b0d19580363a62b8d88c62b"), looks := false }, kinds := [], alts := [], laidByText := true, laidKinds := [.data], laidTests := true, laidLooks := .later }
def EncodeApartUptoCardSaid : Prop := Claim7.holds Tryd.pinned (.plain (OpenSpec.upto encodeApartSpec)) encodeApartUptoCard
end Rows
end Go.Proofs.YtaiecnepchndkaaDoor
