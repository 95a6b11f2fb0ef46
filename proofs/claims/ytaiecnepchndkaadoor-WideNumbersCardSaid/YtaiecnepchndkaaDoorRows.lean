/-
  NARROWER THAN 'FOR EVERY INPUT', by the rows' own cells (each row's printed sentence says how): ShortDecodes: laid · ShortBack: laid · ShortMay: laid · ShortLong: laid · ShortBlocks: laid · NarrowEncodes: laid · NarrowHalf: laid · NarrowApart: laid · NarrowFlags: laid · TallLow: laid · TallBlocks: laid · WideLong: laid · WideApart: laid · WideNumbers: laid · WideBlocks: laid · DecodePlaces: laid · EncodeApart: laid.
  DERIVED. THE GIVEN ROWS OF THIS SEAT. 17 by the template 'for every input the law returns true; each argument reads behind the call as it read before'; 0 by the template 'total and deterministic' (their statements: YtaiecnepchndkaaDoorTotals.lean).
  GIVEN WITH THE SEED: the statements are not yours to turn. If you find one false, say at which input.
  Laid BY PROGRAM, IN A SANDBOX (cutbox-rows.mjs): the forced cells as the released guide's own fill.sh prints them over the translation 4d03714b3408d5a4… (all of the seat's roots in one cut). By AI agents, Wed Nov 11 2026. No macro, syntax, notation, axiom, sorry.
-/
import Derived.Test.YtaiecnepchndkaaDoorChecked
import GoSem.Claim
import GoSem.ClaimJoined
import GoSem.ClaimMapViews
import Derived.JoinedTies
import Derived.KernelRfl
namespace Go.Proofs.YtaiecnepchndkaaDoor
/- THE CELL 'sum', in the pinned program and in every row, IS THE sha256 OF THE DUMP (.gsa) THAT YtaiecnepchndkaaDoorProg.lean LOADS. Nothing in Lean hashes anything: it is a label: what it is worth is what the hold of that sum in a sandbox is worth. -/
noncomputable def Tryd.pinned : Pinned := { name := "ytaiecnepchndkaadoor", sum := "4d03714b3408d5a45c23d83fa87201db62ee5e7d4feb7a17ccee3d12fed2a0de", checked := Tryd.checked }
namespace Rows
def none {H : Type} : Left H := { results := [], args := [] }

/- WHAT THE LISTED PACKAGE-LEVEL VARIABLES READ AS WHEN THE CALL BEGINS. Each datum BY PROGRAM (the guide's laid-datum.mjs) off the statement by which the dump's own 'gosem.cut.vars' lays the variable. In a bare row this is a premise. The card (YtaiecnepchndkaaDoorCards.lean) ties it to the program's text. -/
def laid_cartouche_offs_kinds {H : Type} : DataW H := .agg [.agg [.lit (.int .i64 0), .lit (.bool false)], .agg [.lit (.int .i64 8), .lit (.bool true)], .agg [.lit (.int .i64 11), .lit (.bool true)], .agg [.lit (.int .i64 20), .lit (.bool true)], .agg [.lit (.int .i64 24), .lit (.bool true)], .agg [.lit (.int .i64 6), .lit (.bool false)]]

/-- 'cartouchelaw10.ShortDecodes': WHATEVER THE INPUT: true; the input reads as it did. -/
def shortDecodesSpec : ChangeSpec := { name := "shortDecodes", fn := fun _ => fun
  | [d1, d2] => { results := [.lit (.bool true)], args := [d1, d2] }
  | _ => none }
def shortDecodesRow : OpenClaim := { program := "ytaiecnepchndkaadoor", sum := "4d03714b3408d5a45c23d83fa87201db62ee5e7d4feb7a17ccee3d12fed2a0de", func := "cartouche/cartouchelaw10.ShortDecodes", spec := "shortDecodes", unfollowed := true, recurses := true, named := ["cartouche/offs.kinds"], apart := false, laid := [("cartouche/offs.kinds", laid_cartouche_offs_kinds)] }
def ShortDecodesSaid : Prop := shortDecodesRow.holds Tryd.pinned (OpenSpec.ofChange shortDecodesSpec)

/-- ITS FALSE NEIGHBOUR: 'it returns false'. Refute it at one input. -/
def shortDecodesWrong : ChangeSpec := { name := "shortDecodes", fn := fun _ => fun
  | [d1, d2] => { results := [.lit (.bool false)], args := [d1, d2] }
  | _ => none }
def ShortDecodesWrongFalsely : Prop := shortDecodesRow.holds Tryd.pinned (OpenSpec.ofChange shortDecodesWrong)

/-- 'cartouchelaw10.ShortBack': WHATEVER THE INPUT: true; the input reads as it did. -/
def shortBackSpec : ChangeSpec := { name := "shortBack", fn := fun _ => fun
  | [d1, d2] => { results := [.lit (.bool true)], args := [d1, d2] }
  | _ => none }
def shortBackRow : OpenClaim := { program := "ytaiecnepchndkaadoor", sum := "4d03714b3408d5a45c23d83fa87201db62ee5e7d4feb7a17ccee3d12fed2a0de", func := "cartouche/cartouchelaw10.ShortBack", spec := "shortBack", unfollowed := true, recurses := true, named := ["cartouche/offs.kinds"], apart := false, laid := [("cartouche/offs.kinds", laid_cartouche_offs_kinds)] }
def ShortBackSaid : Prop := shortBackRow.holds Tryd.pinned (OpenSpec.ofChange shortBackSpec)

/-- ITS FALSE NEIGHBOUR: 'it returns false'. Refute it at one input. -/
def shortBackWrong : ChangeSpec := { name := "shortBack", fn := fun _ => fun
  | [d1, d2] => { results := [.lit (.bool false)], args := [d1, d2] }
  | _ => none }
def ShortBackWrongFalsely : Prop := shortBackRow.holds Tryd.pinned (OpenSpec.ofChange shortBackWrong)

/-- 'cartouchelaw10.ShortMay': WHATEVER THE INPUT: true; the input reads as it did. -/
def shortMaySpec : ChangeSpec := { name := "shortMay", fn := fun _ => fun
  | [d1, d2] => { results := [.lit (.bool true)], args := [d1, d2] }
  | _ => none }
def shortMayRow : OpenClaim := { program := "ytaiecnepchndkaadoor", sum := "4d03714b3408d5a45c23d83fa87201db62ee5e7d4feb7a17ccee3d12fed2a0de", func := "cartouche/cartouchelaw10.ShortMay", spec := "shortMay", unfollowed := true, recurses := true, named := ["cartouche/offs.kinds"], apart := false, laid := [("cartouche/offs.kinds", laid_cartouche_offs_kinds)] }
def ShortMaySaid : Prop := shortMayRow.holds Tryd.pinned (OpenSpec.ofChange shortMaySpec)

/-- ITS FALSE NEIGHBOUR: 'it returns false'. Refute it at one input. -/
def shortMayWrong : ChangeSpec := { name := "shortMay", fn := fun _ => fun
  | [d1, d2] => { results := [.lit (.bool false)], args := [d1, d2] }
  | _ => none }
def ShortMayWrongFalsely : Prop := shortMayRow.holds Tryd.pinned (OpenSpec.ofChange shortMayWrong)

/-- 'cartouchelaw10.ShortLong': WHATEVER THE INPUT: true; the input reads as it did. -/
def shortLongSpec : ChangeSpec := { name := "shortLong", fn := fun _ => fun
  | [d1, d2] => { results := [.lit (.bool true)], args := [d1, d2] }
  | _ => none }
def shortLongRow : OpenClaim := { program := "ytaiecnepchndkaadoor", sum := "4d03714b3408d5a45c23d83fa87201db62ee5e7d4feb7a17ccee3d12fed2a0de", func := "cartouche/cartouchelaw10.ShortLong", spec := "shortLong", unfollowed := true, recurses := true, named := ["cartouche/offs.kinds"], apart := false, laid := [("cartouche/offs.kinds", laid_cartouche_offs_kinds)] }
def ShortLongSaid : Prop := shortLongRow.holds Tryd.pinned (OpenSpec.ofChange shortLongSpec)

/-- ITS FALSE NEIGHBOUR: 'it returns false'. Refute it at one input. -/
def shortLongWrong : ChangeSpec := { name := "shortLong", fn := fun _ => fun
  | [d1, d2] => { results := [.lit (.bool false)], args := [d1, d2] }
  | _ => none }
def ShortLongWrongFalsely : Prop := shortLongRow.holds Tryd.pinned (OpenSpec.ofChange shortLongWrong)

/-- 'cartouchelaw10.ShortBlocks': WHATEVER THE INPUT: true; the input reads as it did. -/
def shortBlocksSpec : ChangeSpec := { name := "shortBlocks", fn := fun _ => fun
  | [d] => { results := [.lit (.bool true)], args := [d] }
  | _ => none }
def shortBlocksRow : OpenClaim := { program := "ytaiecnepchndkaadoor", sum := "4d03714b3408d5a45c23d83fa87201db62ee5e7d4feb7a17ccee3d12fed2a0de", func := "cartouche/cartouchelaw10.ShortBlocks", spec := "shortBlocks", unfollowed := true, recurses := true, named := ["cartouche/offs.kinds"], apart := false, laid := [("cartouche/offs.kinds", laid_cartouche_offs_kinds)] }
def ShortBlocksSaid : Prop := shortBlocksRow.holds Tryd.pinned (OpenSpec.ofChange shortBlocksSpec)

/-- ITS FALSE NEIGHBOUR: 'it returns false'. Refute it at one input. -/
def shortBlocksWrong : ChangeSpec := { name := "shortBlocks", fn := fun _ => fun
  | [d] => { results := [.lit (.bool false)], args := [d] }
  | _ => none }
def ShortBlocksWrongFalsely : Prop := shortBlocksRow.holds Tryd.pinned (OpenSpec.ofChange shortBlocksWrong)

/-- 'cartouchelaw07.NarrowEncodes': WHATEVER THE INPUT: true; the input reads as it did. -/
def narrowEncodesSpec : ChangeSpec := { name := "narrowEncodes", fn := fun _ => fun
  | [d1, d2] => { results := [.lit (.bool true)], args := [d1, d2] }
  | _ => none }
def narrowEncodesRow : OpenClaim := { program := "ytaiecnepchndkaadoor", sum := "4d03714b3408d5a45c23d83fa87201db62ee5e7d4feb7a17ccee3d12fed2a0de", func := "cartouche/cartouchelaw07.NarrowEncodes", spec := "narrowEncodes", named := ["cartouche/offs.kinds"], apart := false, laid := [("cartouche/offs.kinds", laid_cartouche_offs_kinds)] }
def NarrowEncodesSaid : Prop := narrowEncodesRow.holds Tryd.pinned (OpenSpec.ofChange narrowEncodesSpec)

/-- ITS FALSE NEIGHBOUR: 'it returns false'. Refute it at one input. -/
def narrowEncodesWrong : ChangeSpec := { name := "narrowEncodes", fn := fun _ => fun
  | [d1, d2] => { results := [.lit (.bool false)], args := [d1, d2] }
  | _ => none }
def NarrowEncodesWrongFalsely : Prop := narrowEncodesRow.holds Tryd.pinned (OpenSpec.ofChange narrowEncodesWrong)

/-- 'cartouchelaw07.NarrowHalf': WHATEVER THE INPUT: true; the input reads as it did. -/
def narrowHalfSpec : ChangeSpec := { name := "narrowHalf", fn := fun _ => fun
  | [d1, d2] => { results := [.lit (.bool true)], args := [d1, d2] }
  | _ => none }
def narrowHalfRow : OpenClaim := { program := "ytaiecnepchndkaadoor", sum := "4d03714b3408d5a45c23d83fa87201db62ee5e7d4feb7a17ccee3d12fed2a0de", func := "cartouche/cartouchelaw07.NarrowHalf", spec := "narrowHalf", named := ["cartouche/offs.kinds"], apart := false, laid := [("cartouche/offs.kinds", laid_cartouche_offs_kinds)] }
def NarrowHalfSaid : Prop := narrowHalfRow.holds Tryd.pinned (OpenSpec.ofChange narrowHalfSpec)

/-- ITS FALSE NEIGHBOUR: 'it returns false'. Refute it at one input. -/
def narrowHalfWrong : ChangeSpec := { name := "narrowHalf", fn := fun _ => fun
  | [d1, d2] => { results := [.lit (.bool false)], args := [d1, d2] }
  | _ => none }
def NarrowHalfWrongFalsely : Prop := narrowHalfRow.holds Tryd.pinned (OpenSpec.ofChange narrowHalfWrong)

/-- 'cartouchelaw07.NarrowApart': WHATEVER THE INPUT: true; the input reads as it did. -/
def narrowApartSpec : ChangeSpec := { name := "narrowApart", fn := fun _ => fun
  | [d1, d2, d3] => { results := [.lit (.bool true)], args := [d1, d2, d3] }
  | _ => none }
def narrowApartRow : OpenClaim := { program := "ytaiecnepchndkaadoor", sum := "4d03714b3408d5a45c23d83fa87201db62ee5e7d4feb7a17ccee3d12fed2a0de", func := "cartouche/cartouchelaw07.NarrowApart", spec := "narrowApart", named := ["cartouche/offs.kinds"], apart := false, laid := [("cartouche/offs.kinds", laid_cartouche_offs_kinds)] }
def NarrowApartSaid : Prop := narrowApartRow.holds Tryd.pinned (OpenSpec.ofChange narrowApartSpec)

/-- ITS FALSE NEIGHBOUR: 'it returns false'. Refute it at one input. -/
def narrowApartWrong : ChangeSpec := { name := "narrowApart", fn := fun _ => fun
  | [d1, d2, d3] => { results := [.lit (.bool false)], args := [d1, d2, d3] }
  | _ => none }
def NarrowApartWrongFalsely : Prop := narrowApartRow.holds Tryd.pinned (OpenSpec.ofChange narrowApartWrong)

/-- 'cartouchelaw07.NarrowFlags': WHATEVER THE INPUT: true; the input reads as it did. -/
def narrowFlagsSpec : ChangeSpec := { name := "narrowFlags", fn := fun _ => fun
  | [d] => { results := [.lit (.bool true)], args := [d] }
  | _ => none }
def narrowFlagsRow : OpenClaim := { program := "ytaiecnepchndkaadoor", sum := "4d03714b3408d5a45c23d83fa87201db62ee5e7d4feb7a17ccee3d12fed2a0de", func := "cartouche/cartouchelaw07.NarrowFlags", spec := "narrowFlags", named := ["cartouche/offs.kinds"], apart := false, laid := [("cartouche/offs.kinds", laid_cartouche_offs_kinds)] }
def NarrowFlagsSaid : Prop := narrowFlagsRow.holds Tryd.pinned (OpenSpec.ofChange narrowFlagsSpec)

/-- ITS FALSE NEIGHBOUR: 'it returns false'. Refute it at one input. -/
def narrowFlagsWrong : ChangeSpec := { name := "narrowFlags", fn := fun _ => fun
  | [d] => { results := [.lit (.bool false)], args := [d] }
  | _ => none }
def NarrowFlagsWrongFalsely : Prop := narrowFlagsRow.holds Tryd.pinned (OpenSpec.ofChange narrowFlagsWrong)

/-- 'cartouchelaw11.TallLow': WHATEVER THE INPUT: true; the input reads as it did. -/
def tallLowSpec : ChangeSpec := { name := "tallLow", fn := fun _ => fun
  | [d1, d2, d3] => { results := [.lit (.bool true)], args := [d1, d2, d3] }
  | _ => none }
def tallLowRow : OpenClaim := { program := "ytaiecnepchndkaadoor", sum := "4d03714b3408d5a45c23d83fa87201db62ee5e7d4feb7a17ccee3d12fed2a0de", func := "cartouche/cartouchelaw11.TallLow", spec := "tallLow", unfollowed := true, recurses := true, named := ["cartouche/offs.kinds"], apart := false, laid := [("cartouche/offs.kinds", laid_cartouche_offs_kinds)] }
def TallLowSaid : Prop := tallLowRow.holds Tryd.pinned (OpenSpec.ofChange tallLowSpec)

/-- ITS FALSE NEIGHBOUR: 'it returns false'. Refute it at one input. -/
def tallLowWrong : ChangeSpec := { name := "tallLow", fn := fun _ => fun
  | [d1, d2, d3] => { results := [.lit (.bool false)], args := [d1, d2, d3] }
  | _ => none }
def TallLowWrongFalsely : Prop := tallLowRow.holds Tryd.pinned (OpenSpec.ofChange tallLowWrong)

/-- 'cartouchelaw11.TallBlocks': WHATEVER THE INPUT: true; the input reads as it did. -/
def tallBlocksSpec : ChangeSpec := { name := "tallBlocks", fn := fun _ => fun
  | [d1, d2] => { results := [.lit (.bool true)], args := [d1, d2] }
  | _ => none }
def tallBlocksRow : OpenClaim := { program := "ytaiecnepchndkaadoor", sum := "4d03714b3408d5a45c23d83fa87201db62ee5e7d4feb7a17ccee3d12fed2a0de", func := "cartouche/cartouchelaw11.TallBlocks", spec := "tallBlocks", unfollowed := true, recurses := true, named := ["cartouche/offs.kinds"], apart := false, laid := [("cartouche/offs.kinds", laid_cartouche_offs_kinds)] }
def TallBlocksSaid : Prop := tallBlocksRow.holds Tryd.pinned (OpenSpec.ofChange tallBlocksSpec)

/-- ITS FALSE NEIGHBOUR: 'it returns false'. Refute it at one input. -/
def tallBlocksWrong : ChangeSpec := { name := "tallBlocks", fn := fun _ => fun
  | [d1, d2] => { results := [.lit (.bool false)], args := [d1, d2] }
  | _ => none }
def TallBlocksWrongFalsely : Prop := tallBlocksRow.holds Tryd.pinned (OpenSpec.ofChange tallBlocksWrong)

/-- 'cartouchelaw08.WideLong': WHATEVER THE INPUT: true; the input reads as it did. -/
def wideLongSpec : ChangeSpec := { name := "wideLong", fn := fun _ => fun
  | [d1, d2] => { results := [.lit (.bool true)], args := [d1, d2] }
  | _ => none }
def wideLongRow : OpenClaim := { program := "ytaiecnepchndkaadoor", sum := "4d03714b3408d5a45c23d83fa87201db62ee5e7d4feb7a17ccee3d12fed2a0de", func := "cartouche/cartouchelaw08.WideLong", spec := "wideLong", unfollowed := true, recurses := true, named := ["cartouche/offs.kinds"], apart := false, laid := [("cartouche/offs.kinds", laid_cartouche_offs_kinds)] }
def WideLongSaid : Prop := wideLongRow.holds Tryd.pinned (OpenSpec.ofChange wideLongSpec)

/-- ITS FALSE NEIGHBOUR: 'it returns false'. Refute it at one input. -/
def wideLongWrong : ChangeSpec := { name := "wideLong", fn := fun _ => fun
  | [d1, d2] => { results := [.lit (.bool false)], args := [d1, d2] }
  | _ => none }
def WideLongWrongFalsely : Prop := wideLongRow.holds Tryd.pinned (OpenSpec.ofChange wideLongWrong)

/-- 'cartouchelaw08.WideApart': WHATEVER THE INPUT: true; the input reads as it did. -/
def wideApartSpec : ChangeSpec := { name := "wideApart", fn := fun _ => fun
  | [d1, d2, d3] => { results := [.lit (.bool true)], args := [d1, d2, d3] }
  | _ => none }
def wideApartRow : OpenClaim := { program := "ytaiecnepchndkaadoor", sum := "4d03714b3408d5a45c23d83fa87201db62ee5e7d4feb7a17ccee3d12fed2a0de", func := "cartouche/cartouchelaw08.WideApart", spec := "wideApart", unfollowed := true, recurses := true, named := ["cartouche/offs.kinds"], apart := false, laid := [("cartouche/offs.kinds", laid_cartouche_offs_kinds)] }
def WideApartSaid : Prop := wideApartRow.holds Tryd.pinned (OpenSpec.ofChange wideApartSpec)

/-- ITS FALSE NEIGHBOUR: 'it returns false'. Refute it at one input. -/
def wideApartWrong : ChangeSpec := { name := "wideApart", fn := fun _ => fun
  | [d1, d2, d3] => { results := [.lit (.bool false)], args := [d1, d2, d3] }
  | _ => none }
def WideApartWrongFalsely : Prop := wideApartRow.holds Tryd.pinned (OpenSpec.ofChange wideApartWrong)

/-- 'cartouchelaw08.WideNumbers': WHATEVER THE INPUT: true; the input reads as it did. -/
def wideNumbersSpec : ChangeSpec := { name := "wideNumbers", fn := fun _ => fun
  | [d1, d2] => { results := [.lit (.bool true)], args := [d1, d2] }
  | _ => none }
def wideNumbersRow : OpenClaim := { program := "ytaiecnepchndkaadoor", sum := "4d03714b3408d5a45c23d83fa87201db62ee5e7d4feb7a17ccee3d12fed2a0de", func := "cartouche/cartouchelaw08.WideNumbers", spec := "wideNumbers", unfollowed := true, recurses := true, named := ["cartouche/offs.kinds"], apart := false, laid := [("cartouche/offs.kinds", laid_cartouche_offs_kinds)] }
def WideNumbersSaid : Prop := wideNumbersRow.holds Tryd.pinned (OpenSpec.ofChange wideNumbersSpec)

/-- ITS FALSE NEIGHBOUR: 'it returns false'. Refute it at one input. -/
def wideNumbersWrong : ChangeSpec := { name := "wideNumbers", fn := fun _ => fun
  | [d1, d2] => { results := [.lit (.bool false)], args := [d1, d2] }
  | _ => none }
def WideNumbersWrongFalsely : Prop := wideNumbersRow.holds Tryd.pinned (OpenSpec.ofChange wideNumbersWrong)

/-- 'cartouchelaw08.WideBlocks': WHATEVER THE INPUT: true; the input reads as it did. -/
def wideBlocksSpec : ChangeSpec := { name := "wideBlocks", fn := fun _ => fun
  | [d] => { results := [.lit (.bool true)], args := [d] }
  | _ => none }
def wideBlocksRow : OpenClaim := { program := "ytaiecnepchndkaadoor", sum := "4d03714b3408d5a45c23d83fa87201db62ee5e7d4feb7a17ccee3d12fed2a0de", func := "cartouche/cartouchelaw08.WideBlocks", spec := "wideBlocks", unfollowed := true, recurses := true, named := ["cartouche/offs.kinds"], apart := false, laid := [("cartouche/offs.kinds", laid_cartouche_offs_kinds)] }
def WideBlocksSaid : Prop := wideBlocksRow.holds Tryd.pinned (OpenSpec.ofChange wideBlocksSpec)

/-- ITS FALSE NEIGHBOUR: 'it returns false'. Refute it at one input. -/
def wideBlocksWrong : ChangeSpec := { name := "wideBlocks", fn := fun _ => fun
  | [d] => { results := [.lit (.bool false)], args := [d] }
  | _ => none }
def WideBlocksWrongFalsely : Prop := wideBlocksRow.holds Tryd.pinned (OpenSpec.ofChange wideBlocksWrong)

/-- 'cartouchelaw12.DecodePlaces': WHATEVER THE INPUT: true; the input reads as it did. -/
def decodePlacesSpec : ChangeSpec := { name := "decodePlaces", fn := fun _ => fun
  | [d] => { results := [.lit (.bool true)], args := [d] }
  | _ => none }
def decodePlacesRow : OpenClaim := { program := "ytaiecnepchndkaadoor", sum := "4d03714b3408d5a45c23d83fa87201db62ee5e7d4feb7a17ccee3d12fed2a0de", func := "cartouche/cartouchelaw12.DecodePlaces", spec := "decodePlaces", unfollowed := true, recurses := true, named := ["cartouche/offs.kinds"], apart := false, laid := [("cartouche/offs.kinds", laid_cartouche_offs_kinds)] }
def DecodePlacesSaid : Prop := decodePlacesRow.holds Tryd.pinned (OpenSpec.ofChange decodePlacesSpec)

/-- ITS FALSE NEIGHBOUR: 'it returns false'. Refute it at one input. -/
def decodePlacesWrong : ChangeSpec := { name := "decodePlaces", fn := fun _ => fun
  | [d] => { results := [.lit (.bool false)], args := [d] }
  | _ => none }
def DecodePlacesWrongFalsely : Prop := decodePlacesRow.holds Tryd.pinned (OpenSpec.ofChange decodePlacesWrong)

/-- 'cartouchelaw09.EncodeApart': WHATEVER THE INPUT: true; the input reads as it did. -/
def encodeApartSpec : ChangeSpec := { name := "encodeApart", fn := fun _ => fun
  | [d1, d2, d3] => { results := [.lit (.bool true)], args := [d1, d2, d3] }
  | _ => none }
def encodeApartRow : OpenClaim := { program := "ytaiecnepchndkaadoor", sum := "4d03714b3408d5a45c23d83fa87201db62ee5e7d4feb7a17ccee3d12fed2a0de", func := "cartouche/cartouchelaw09.EncodeApart", spec := "encodeApart", unfollowed := true, recurses := true, named := ["cartouche/offs.kinds"], apart := false, laid := [("cartouche/offs.kinds", laid_cartouche_offs_kinds)] }
def EncodeApartSaid : Prop := encodeApartRow.holds Tryd.pinned (OpenSpec.ofChange encodeApartSpec)

/-- ITS FALSE NEIGHBOUR: 'it returns false'. Refute it at one input. -/
def encodeApartWrong : ChangeSpec := { name := "encodeApart", fn := fun _ => fun
  | [d1, d2, d3] => { results := [.lit (.bool false)], args := [d1, d2, d3] }
  | _ => none }
def EncodeApartWrongFalsely : Prop := encodeApartRow.holds Tryd.pinned (OpenSpec.ofChange encodeApartWrong)

/- THE SECOND FORM. 'bulk': how many values and letters a reading holds, each counted each time it is reached (what is shared counts as often as it is met; a slice's spare places count too). A statement '..UptoSaid' is the law's where the arguments, and the package variables that the reading takes, are together of bulk at most 1048576: NARROWER than '..Said'. Prove '..Said' where nothing that the law and all that it calls make is longer than what came in: it says more and counts as full. Else prove '..UptoSaid'. A law counts once. -/
mutual
def uptoBulk {H : Type} : DataW H → Nat
  | .lit (.string bytes) => bytes.length + 1
  | .lit _ => 1
  | .nil => 1
  | .ptr d => uptoBulk d + 1
  | .slice elems spare => uptoBulkAll elems + uptoBulkAll spare + 1
  | .agg parts => uptoBulkAll parts + 1
  | .iface _ d => uptoBulk d + 1
  | .map entries => uptoBulkEntries entries + 1
  | .held _ => 1
def uptoBulkAll {H : Type} : List (DataW H) → Nat
  | [] => 0
  | d :: r => uptoBulk d + uptoBulkAll r
def uptoBulkEntries {H : Type} : List (Lit × DataW H) → Nat
  | [] => 0
  | x :: r => uptoBulkEntry x + uptoBulkEntries r
def uptoBulkEntry {H : Type} : Lit × DataW H → Nat
  | (.string bytes, d) => bytes.length + uptoBulk d + 1
  | (_, d) => uptoBulk d + 1
 end
def uptoSmall : (H : Type) → List (DataW H) → Bool := fun _ ds => decide (uptoBulkAll ds ≤ 1048576)
def OpenSpec.upto (s : _root_.Go.ChangeSpec) : _root_.Go.OpenSpec := { _root_.Go.OpenSpec.ofChange s with cond := some uptoSmall }

/-- 'cartouchelaw10.ShortDecodes', WHERE WHAT IT READS IS OF BULK AT MOST 1048576: true; the input reads as it did. -/
def shortDecodesUptoRow : OpenClaim := { program := "ytaiecnepchndkaadoor", sum := "4d03714b3408d5a45c23d83fa87201db62ee5e7d4feb7a17ccee3d12fed2a0de", func := "cartouche/cartouchelaw10.ShortDecodes", spec := "shortDecodes", unfollowed := true, recurses := true, named := ["cartouche/offs.kinds"], apart := false, laid := [("cartouche/offs.kinds", laid_cartouche_offs_kinds)], narrowed := true }
def ShortDecodesUptoSaid : Prop := shortDecodesUptoRow.holds Tryd.pinned (OpenSpec.upto shortDecodesSpec)

/-- 'cartouchelaw10.ShortBack', WHERE WHAT IT READS IS OF BULK AT MOST 1048576: true; the input reads as it did. -/
def shortBackUptoRow : OpenClaim := { program := "ytaiecnepchndkaadoor", sum := "4d03714b3408d5a45c23d83fa87201db62ee5e7d4feb7a17ccee3d12fed2a0de", func := "cartouche/cartouchelaw10.ShortBack", spec := "shortBack", unfollowed := true, recurses := true, named := ["cartouche/offs.kinds"], apart := false, laid := [("cartouche/offs.kinds", laid_cartouche_offs_kinds)], narrowed := true }
def ShortBackUptoSaid : Prop := shortBackUptoRow.holds Tryd.pinned (OpenSpec.upto shortBackSpec)

/-- 'cartouchelaw10.ShortMay', WHERE WHAT IT READS IS OF BULK AT MOST 1048576: true; the input reads as it did. -/
def shortMayUptoRow : OpenClaim := { program := "ytaiecnepchndkaadoor", sum := "4d03714b3408d5a45c23d83fa87201db62ee5e7d4feb7a17ccee3d12fed2a0de", func := "cartouche/cartouchelaw10.ShortMay", spec := "shortMay", unfollowed := true, recurses := true, named := ["cartouche/offs.kinds"], apart := false, laid := [("cartouche/offs.kinds", laid_cartouche_offs_kinds)], narrowed := true }
def ShortMayUptoSaid : Prop := shortMayUptoRow.holds Tryd.pinned (OpenSpec.upto shortMaySpec)

/-- 'cartouchelaw10.ShortLong', WHERE WHAT IT READS IS OF BULK AT MOST 1048576: true; the input reads as it did. -/
def shortLongUptoRow : OpenClaim := { program := "ytaiecnepchndkaadoor", sum := "4d03714b3408d5a45c23d83fa87201db62ee5e7d4feb7a17ccee3d12fed2a0de", func := "cartouche/cartouchelaw10.ShortLong", spec := "shortLong", unfollowed := true, recurses := true, named := ["cartouche/offs.kinds"], apart := false, laid := [("cartouche/offs.kinds", laid_cartouche_offs_kinds)], narrowed := true }
def ShortLongUptoSaid : Prop := shortLongUptoRow.holds Tryd.pinned (OpenSpec.upto shortLongSpec)

/-- 'cartouchelaw10.ShortBlocks', WHERE WHAT IT READS IS OF BULK AT MOST 1048576: true; the input reads as it did. -/
def shortBlocksUptoRow : OpenClaim := { program := "ytaiecnepchndkaadoor", sum := "4d03714b3408d5a45c23d83fa87201db62ee5e7d4feb7a17ccee3d12fed2a0de", func := "cartouche/cartouchelaw10.ShortBlocks", spec := "shortBlocks", unfollowed := true, recurses := true, named := ["cartouche/offs.kinds"], apart := false, laid := [("cartouche/offs.kinds", laid_cartouche_offs_kinds)], narrowed := true }
def ShortBlocksUptoSaid : Prop := shortBlocksUptoRow.holds Tryd.pinned (OpenSpec.upto shortBlocksSpec)

/-- 'cartouchelaw07.NarrowEncodes', WHERE WHAT IT READS IS OF BULK AT MOST 1048576: true; the input reads as it did. -/
def narrowEncodesUptoRow : OpenClaim := { program := "ytaiecnepchndkaadoor", sum := "4d03714b3408d5a45c23d83fa87201db62ee5e7d4feb7a17ccee3d12fed2a0de", func := "cartouche/cartouchelaw07.NarrowEncodes", spec := "narrowEncodes", named := ["cartouche/offs.kinds"], apart := false, laid := [("cartouche/offs.kinds", laid_cartouche_offs_kinds)], narrowed := true }
def NarrowEncodesUptoSaid : Prop := narrowEncodesUptoRow.holds Tryd.pinned (OpenSpec.upto narrowEncodesSpec)

/-- 'cartouchelaw07.NarrowHalf', WHERE WHAT IT READS IS OF BULK AT MOST 1048576: true; the input reads as it did. -/
def narrowHalfUptoRow : OpenClaim := { program := "ytaiecnepchndkaadoor", sum := "4d03714b3408d5a45c23d83fa87201db62ee5e7d4feb7a17ccee3d12fed2a0de", func := "cartouche/cartouchelaw07.NarrowHalf", spec := "narrowHalf", named := ["cartouche/offs.kinds"], apart := false, laid := [("cartouche/offs.kinds", laid_cartouche_offs_kinds)], narrowed := true }
def NarrowHalfUptoSaid : Prop := narrowHalfUptoRow.holds Tryd.pinned (OpenSpec.upto narrowHalfSpec)

/-- 'cartouchelaw07.NarrowApart', WHERE WHAT IT READS IS OF BULK AT MOST 1048576: true; the input reads as it did. -/
def narrowApartUptoRow : OpenClaim := { program := "ytaiecnepchndkaadoor", sum := "4d03714b3408d5a45c23d83fa87201db62ee5e7d4feb7a17ccee3d12fed2a0de", func := "cartouche/cartouchelaw07.NarrowApart", spec := "narrowApart", named := ["cartouche/offs.kinds"], apart := false, laid := [("cartouche/offs.kinds", laid_cartouche_offs_kinds)], narrowed := true }
def NarrowApartUptoSaid : Prop := narrowApartUptoRow.holds Tryd.pinned (OpenSpec.upto narrowApartSpec)

/-- 'cartouchelaw07.NarrowFlags', WHERE WHAT IT READS IS OF BULK AT MOST 1048576: true; the input reads as it did. -/
def narrowFlagsUptoRow : OpenClaim := { program := "ytaiecnepchndkaadoor", sum := "4d03714b3408d5a45c23d83fa87201db62ee5e7d4feb7a17ccee3d12fed2a0de", func := "cartouche/cartouchelaw07.NarrowFlags", spec := "narrowFlags", named := ["cartouche/offs.kinds"], apart := false, laid := [("cartouche/offs.kinds", laid_cartouche_offs_kinds)], narrowed := true }
def NarrowFlagsUptoSaid : Prop := narrowFlagsUptoRow.holds Tryd.pinned (OpenSpec.upto narrowFlagsSpec)

/-- 'cartouchelaw11.TallLow', WHERE WHAT IT READS IS OF BULK AT MOST 1048576: true; the input reads as it did. -/
def tallLowUptoRow : OpenClaim := { program := "ytaiecnepchndkaadoor", sum := "4d03714b3408d5a45c23d83fa87201db62ee5e7d4feb7a17ccee3d12fed2a0de", func := "cartouche/cartouchelaw11.TallLow", spec := "tallLow", unfollowed := true, recurses := true, named := ["cartouche/offs.kinds"], apart := false, laid := [("cartouche/offs.kinds", laid_cartouche_offs_kinds)], narrowed := true }
def TallLowUptoSaid : Prop := tallLowUptoRow.holds Tryd.pinned (OpenSpec.upto tallLowSpec)

/-- 'cartouchelaw11.TallBlocks', WHERE WHAT IT READS IS OF BULK AT MOST 1048576: true; the input reads as it did. -/
def tallBlocksUptoRow : OpenClaim := { program := "ytaiecnepchndkaadoor", sum := "4d03714b3408d5a45c23d83fa87201db62ee5e7d4feb7a17ccee3d12fed2a0de", func := "cartouche/cartouchelaw11.TallBlocks", spec := "tallBlocks", unfollowed := true, recurses := true, named := ["cartouche/offs.kinds"], apart := false, laid := [("cartouche/offs.kinds", laid_cartouche_offs_kinds)], narrowed := true }
def TallBlocksUptoSaid : Prop := tallBlocksUptoRow.holds Tryd.pinned (OpenSpec.upto tallBlocksSpec)

/-- 'cartouchelaw08.WideLong', WHERE WHAT IT READS IS OF BULK AT MOST 1048576: true; the input reads as it did. -/
def wideLongUptoRow : OpenClaim := { program := "ytaiecnepchndkaadoor", sum := "4d03714b3408d5a45c23d83fa87201db62ee5e7d4feb7a17ccee3d12fed2a0de", func := "cartouche/cartouchelaw08.WideLong", spec := "wideLong", unfollowed := true, recurses := true, named := ["cartouche/offs.kinds"], apart := false, laid := [("cartouche/offs.kinds", laid_cartouche_offs_kinds)], narrowed := true }
def WideLongUptoSaid : Prop := wideLongUptoRow.holds Tryd.pinned (OpenSpec.upto wideLongSpec)

/-- 'cartouchelaw08.WideApart', WHERE WHAT IT READS IS OF BULK AT MOST 1048576: true; the input reads as it did. -/
def wideApartUptoRow : OpenClaim := { program := "ytaiecnepchndkaadoor", sum := "4d03714b3408d5a45c23d83fa87201db62ee5e7d4feb7a17ccee3d12fed2a0de", func := "cartouche/cartouchelaw08.WideApart", spec := "wideApart", unfollowed := true, recurses := true, named := ["cartouche/offs.kinds"], apart := false, laid := [("cartouche/offs.kinds", laid_cartouche_offs_kinds)], narrowed := true }
def WideApartUptoSaid : Prop := wideApartUptoRow.holds Tryd.pinned (OpenSpec.upto wideApartSpec)

/-- 'cartouchelaw08.WideNumbers', WHERE WHAT IT READS IS OF BULK AT MOST 1048576: true; the input reads as it did. -/
def wideNumbersUptoRow : OpenClaim := { program := "ytaiecnepchndkaadoor", sum := "4d03714b3408d5a45c23d83fa87201db62ee5e7d4feb7a17ccee3d12fed2a0de", func := "cartouche/cartouchelaw08.WideNumbers", spec := "wideNumbers", unfollowed := true, recurses := true, named := ["cartouche/offs.kinds"], apart := false, laid := [("cartouche/offs.kinds", laid_cartouche_offs_kinds)], narrowed := true }
def WideNumbersUptoSaid : Prop := wideNumbersUptoRow.holds Tryd.pinned (OpenSpec.upto wideNumbersSpec)

/-- 'cartouchelaw08.WideBlocks', WHERE WHAT IT READS IS OF BULK AT MOST 1048576: true; the input reads as it did. -/
def wideBlocksUptoRow : OpenClaim := { program := "ytaiecnepchndkaadoor", sum := "4d03714b3408d5a45c23d83fa87201db62ee5e7d4feb7a17ccee3d12fed2a0de", func := "cartouche/cartouchelaw08.WideBlocks", spec := "wideBlocks", unfollowed := true, recurses := true, named := ["cartouche/offs.kinds"], apart := false, laid := [("cartouche/offs.kinds", laid_cartouche_offs_kinds)], narrowed := true }
def WideBlocksUptoSaid : Prop := wideBlocksUptoRow.holds Tryd.pinned (OpenSpec.upto wideBlocksSpec)

/-- 'cartouchelaw12.DecodePlaces', WHERE WHAT IT READS IS OF BULK AT MOST 1048576: true; the input reads as it did. -/
def decodePlacesUptoRow : OpenClaim := { program := "ytaiecnepchndkaadoor", sum := "4d03714b3408d5a45c23d83fa87201db62ee5e7d4feb7a17ccee3d12fed2a0de", func := "cartouche/cartouchelaw12.DecodePlaces", spec := "decodePlaces", unfollowed := true, recurses := true, named := ["cartouche/offs.kinds"], apart := false, laid := [("cartouche/offs.kinds", laid_cartouche_offs_kinds)], narrowed := true }
def DecodePlacesUptoSaid : Prop := decodePlacesUptoRow.holds Tryd.pinned (OpenSpec.upto decodePlacesSpec)

/-- 'cartouchelaw09.EncodeApart', WHERE WHAT IT READS IS OF BULK AT MOST 1048576: true; the input reads as it did. -/
def encodeApartUptoRow : OpenClaim := { program := "ytaiecnepchndkaadoor", sum := "4d03714b3408d5a45c23d83fa87201db62ee5e7d4feb7a17ccee3d12fed2a0de", func := "cartouche/cartouchelaw09.EncodeApart", spec := "encodeApart", unfollowed := true, recurses := true, named := ["cartouche/offs.kinds"], apart := false, laid := [("cartouche/offs.kinds", laid_cartouche_offs_kinds)], narrowed := true }
def EncodeApartUptoSaid : Prop := encodeApartUptoRow.holds Tryd.pinned (OpenSpec.upto encodeApartSpec)

end Rows
end Go.Proofs.YtaiecnepchndkaaDoor
