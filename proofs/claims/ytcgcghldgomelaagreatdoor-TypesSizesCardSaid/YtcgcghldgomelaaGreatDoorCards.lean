/-
  DERIVED. GIVEN WITH THE SEED: THE CARDS: each row of YtcgcghldgomelaaGreatDoorRows.lean that lists a variable, with what it lists TIED to the program's text (the seventh form; the later family's looks); each row that meets fmt, with fmt's text TOLD by the authors' own Lean function (tested against real Go, not proved from fmt's source: count such statements apart). THE CARD IS WHAT COUNTS. Prove the row's statement (the work); the ties are given (YtcgcghldgomelaaGreatDoorTie.lean); close each card by the builder's one call (the guide's Derived/Test/ToyasCard.lean, 'card_holds'). Laid BY PROGRAM, IN A SANDBOX (cutbox-door.mjs). By AI agents, Wed Nov 11 2026. No macro, syntax, notation, axiom, sorry.
-/
import Derived.Test.YtcgcghldgomelaaGreatDoorRows
import GoSem.ClaimSeven
namespace Go.Proofs.YtcgcghldgomelaaGreatDoor
namespace Rows

/-- THE TIED CARD OF 'campanilelaw01.TypesCheck'. -/
def typesCheckCard : Claim7 := { stood := { row := typesCheckRow, standIns := [], harness := (true, "aa91f1641f87da69735112e5d5080cdac7f639d60bcc704b1e7a4c7eaadf305a"), looks := true }, kinds := [], alts := [], laidByText := true, laidKinds := [.data, .data, .data, .sentinel, .sentinel, .mapped], laidTests := true, laidLooks := .later }
def TypesCheckCardSaid : Prop := Claim7.holds Tryz.pinned (.plain (OpenSpec.ofChange typesCheckSpec)) typesCheckCard

/-- THE TIED CARD OF 'campanilelaw01.TypesCompare'. -/
def typesCompareCard : Claim7 := { stood := { row := typesCompareRow, standIns := [], harness := (true, "aa91f1641f87da69735112e5d5080cdac7f639d60bcc704b1e7a4c7eaadf305a"), looks := true }, kinds := [], alts := [], laidByText := true, laidKinds := [.data, .data, .data, .sentinel, .sentinel, .mapped], laidTests := true, laidLooks := .later }
def TypesCompareCardSaid : Prop := Claim7.holds Tryz.pinned (.plain (OpenSpec.ofChange typesCompareSpec)) typesCompareCard

/-- THE TIED CARD OF 'campanilelaw01.TypesTexts'. -/
def typesTextsCard : Claim7 := { stood := { row := typesTextsRow, standIns := [], harness := (true, "aa91f1641f87da69735112e5d5080cdac7f639d60bcc704b1e7a4c7eaadf305a"), looks := true }, kinds := [], alts := [], laidByText := true, laidKinds := [.data, .data, .data, .sentinel, .sentinel, .mapped], laidTests := true, laidLooks := .later }
def TypesTextsCardSaid : Prop := Claim7.holds Tryz.pinned (.plain (OpenSpec.ofChange typesTextsSpec)) typesTextsCard

/-- THE TIED CARD OF 'campanilelaw01.TypesValues'. -/
def typesValuesCard : Claim7 := { stood := { row := typesValuesRow, standIns := [], harness := (true, "aa91f1641f87da69735112e5d5080cdac7f639d60bcc704b1e7a4c7eaadf305a"), looks := true }, kinds := [], alts := [], laidByText := true, laidKinds := [.data, .data, .data, .sentinel, .sentinel, .mapped], laidTests := true, laidLooks := .later }
def TypesValuesCardSaid : Prop := Claim7.holds Tryz.pinned (.plain (OpenSpec.ofChange typesValuesSpec)) typesValuesCard

/-- THE TIED CARD OF 'campanilelaw01.TypesBack'. -/
def typesBackCard : Claim7 := { stood := { row := typesBackRow, standIns := [], harness := (true, "aa91f1641f87da69735112e5d5080cdac7f639d60bcc704b1e7a4c7eaadf305a"), looks := true }, kinds := [], alts := [], laidByText := true, laidKinds := [.data, .data, .data, .sentinel, .sentinel, .mapped], laidTests := true, laidLooks := .later }
def TypesBackCardSaid : Prop := Claim7.holds Tryz.pinned (.plain (OpenSpec.ofChange typesBackSpec)) typesBackCard

/-- THE TIED CARD OF 'campanilelaw01.TypesOrder'. -/
def typesOrderCard : Claim7 := { stood := { row := typesOrderRow, standIns := [], harness := (true, "aa91f1641f87da69735112e5d5080cdac7f639d60bcc704b1e7a4c7eaadf305a"), looks := true }, kinds := [], alts := [], laidByText := true, laidKinds := [.data, .data, .data, .sentinel, .sentinel, .mapped], laidTests := true, laidLooks := .later }
def TypesOrderCardSaid : Prop := Claim7.holds Tryz.pinned (.plain (OpenSpec.ofChange typesOrderSpec)) typesOrderCard

/-- THE TIED CARD OF 'campanilelaw01.TypesBounds'. -/
def typesBoundsCard : Claim7 := { stood := { row := typesBoundsRow, standIns := [], harness := (true, "aa91f1641f87da69735112e5d5080cdac7f639d60bcc704b1e7a4c7eaadf305a"), looks := true }, kinds := [], alts := [], laidByText := true, laidKinds := [.data, .data, .data, .sentinel, .sentinel, .mapped], laidTests := true, laidLooks := .later }
def TypesBoundsCardSaid : Prop := Claim7.holds Tryz.pinned (.plain (OpenSpec.ofChange typesBoundsSpec)) typesBoundsCard

/-- THE TIED CARD OF 'campanilelaw01.TypesWhole'. -/
def typesWholeCard : Claim7 := { stood := { row := typesWholeRow, standIns := [], harness := (true, "aa91f1641f87da69735112e5d5080cdac7f639d60bcc704b1e7a4c7eaadf305a"), looks := true }, kinds := [], alts := [], laidByText := true, laidKinds := [.data, .data, .data, .sentinel, .sentinel, .mapped], laidTests := true, laidLooks := .later }
def TypesWholeCardSaid : Prop := Claim7.holds Tryz.pinned (.plain (OpenSpec.ofChange typesWholeSpec)) typesWholeCard

/-- THE TIED CARD OF 'campanilelaw01.TypesFloats'. -/
def typesFloatsCard : Claim7 := { stood := { row := typesFloatsRow, standIns := [], harness := (true, "aa91f1641f87da69735112e5d5080cdac7f639d60bcc704b1e7a4c7eaadf305a"), looks := true }, kinds := [], alts := [], laidByText := true, laidKinds := [.data, .data, .data, .sentinel, .sentinel, .mapped], laidTests := true, laidLooks := .later }
def TypesFloatsCardSaid : Prop := Claim7.holds Tryz.pinned (.plain (OpenSpec.ofChange typesFloatsSpec)) typesFloatsCard

/-- THE TIED CARD OF 'campanilelaw01.TypesKnown'. -/
def typesKnownCard : Claim7 := { stood := { row := typesKnownRow, standIns := [], harness := (true, "aa91f1641f87da69735112e5d5080cdac7f639d60bcc704b1e7a4c7eaadf305a"), looks := true }, kinds := [], alts := [], laidByText := true, laidKinds := [.data, .data, .data, .sentinel, .sentinel, .mapped], laidTests := true, laidLooks := .later }
def TypesKnownCardSaid : Prop := Claim7.holds Tryz.pinned (.plain (OpenSpec.ofChange typesKnownSpec)) typesKnownCard

/-- THE TIED CARD OF 'campanilelaw01.TypesSizes'. -/
def typesSizesCard : Claim7 := { stood := { row := typesSizesRow, standIns := [], harness := (true, "aa91f1641f87da69735112e5d5080cdac7f639d60bcc704b1e7a4c7eaadf305a"), looks := true }, kinds := [], alts := [], laidByText := true, laidKinds := [.data, .data, .data, .sentinel, .sentinel, .mapped], laidTests := true, laidLooks := .later }
def TypesSizesCardSaid : Prop := Claim7.holds Tryz.pinned (.plain (OpenSpec.ofChange typesSizesSpec)) typesSizesCard

/-- THE SECOND FORM's CARD OF 'campanilelaw01.TypesCheck'. -/
def typesCheckUptoCard : Claim7 := { stood := { row := typesCheckUptoRow, standIns := [], harness := (true, "aa91f1641f87da69735112e5d5080cdac7f639d60bcc704b1e7a4c7eaadf305a"), looks := true }, kinds := [], alts := [], laidByText := true, laidKinds := [.data, .data, .data, .sentinel, .sentinel, .mapped], laidTests := true, laidLooks := .later }
def TypesCheckUptoCardSaid : Prop := Claim7.holds Tryz.pinned (.plain (OpenSpec.upto typesCheckSpec)) typesCheckUptoCard

/-- THE SECOND FORM's CARD OF 'campanilelaw01.TypesCompare'. -/
def typesCompareUptoCard : Claim7 := { stood := { row := typesCompareUptoRow, standIns := [], harness := (true, "aa91f1641f87da69735112e5d5080cdac7f639d60bcc704b1e7a4c7eaadf305a"), looks := true }, kinds := [], alts := [], laidByText := true, laidKinds := [.data, .data, .data, .sentinel, .sentinel, .mapped], laidTests := true, laidLooks := .later }
def TypesCompareUptoCardSaid : Prop := Claim7.holds Tryz.pinned (.plain (OpenSpec.upto typesCompareSpec)) typesCompareUptoCard

/-- THE SECOND FORM's CARD OF 'campanilelaw01.TypesTexts'. -/
def typesTextsUptoCard : Claim7 := { stood := { row := typesTextsUptoRow, standIns := [], harness := (true, "aa91f1641f87da69735112e5d5080cdac7f639d60bcc704b1e7a4c7eaadf305a"), looks := true }, kinds := [], alts := [], laidByText := true, laidKinds := [.data, .data, .data, .sentinel, .sentinel, .mapped], laidTests := true, laidLooks := .later }
def TypesTextsUptoCardSaid : Prop := Claim7.holds Tryz.pinned (.plain (OpenSpec.upto typesTextsSpec)) typesTextsUptoCard

/-- THE SECOND FORM's CARD OF 'campanilelaw01.TypesValues'. -/
def typesValuesUptoCard : Claim7 := { stood := { row := typesValuesUptoRow, standIns := [], harness := (true, "aa91f1641f87da69735112e5d5080cdac7f639d60bcc704b1e7a4c7eaadf305a"), looks := true }, kinds := [], alts := [], laidByText := true, laidKinds := [.data, .data, .data, .sentinel, .sentinel, .mapped], laidTests := true, laidLooks := .later }
def TypesValuesUptoCardSaid : Prop := Claim7.holds Tryz.pinned (.plain (OpenSpec.upto typesValuesSpec)) typesValuesUptoCard

/-- THE SECOND FORM's CARD OF 'campanilelaw01.TypesBack'. -/
def typesBackUptoCard : Claim7 := { stood := { row := typesBackUptoRow, standIns := [], harness := (true, "aa91f1641f87da69735112e5d5080cdac7f639d60bcc704b1e7a4c7eaadf305a"), looks := true }, kinds := [], alts := [], laidByText := true, laidKinds := [.data, .data, .data, .sentinel, .sentinel, .mapped], laidTests := true, laidLooks := .later }
def TypesBackUptoCardSaid : Prop := Claim7.holds Tryz.pinned (.plain (OpenSpec.upto typesBackSpec)) typesBackUptoCard

/-- THE SECOND FORM's CARD OF 'campanilelaw01.TypesOrder'. -/
def typesOrderUptoCard : Claim7 := { stood := { row := typesOrderUptoRow, standIns := [], harness := (true, "aa91f1641f87da69735112e5d5080cdac7f639d60bcc704b1e7a4c7eaadf305a"), looks := true }, kinds := [], alts := [], laidByText := true, laidKinds := [.data, .data, .data, .sentinel, .sentinel, .mapped], laidTests := true, laidLooks := .later }
def TypesOrderUptoCardSaid : Prop := Claim7.holds Tryz.pinned (.plain (OpenSpec.upto typesOrderSpec)) typesOrderUptoCard

/-- THE SECOND FORM's CARD OF 'campanilelaw01.TypesBounds'. -/
def typesBoundsUptoCard : Claim7 := { stood := { row := typesBoundsUptoRow, standIns := [], harness := (true, "aa91f1641f87da69735112e5d5080cdac7f639d60bcc704b1e7a4c7eaadf305a"), looks := true }, kinds := [], alts := [], laidByText := true, laidKinds := [.data, .data, .data, .sentinel, .sentinel, .mapped], laidTests := true, laidLooks := .later }
def TypesBoundsUptoCardSaid : Prop := Claim7.holds Tryz.pinned (.plain (OpenSpec.upto typesBoundsSpec)) typesBoundsUptoCard

/-- THE SECOND FORM's CARD OF 'campanilelaw01.TypesWhole'. -/
def typesWholeUptoCard : Claim7 := { stood := { row := typesWholeUptoRow, standIns := [], harness := (true, "aa91f1641f87da69735112e5d5080cdac7f639d60bcc704b1e7a4c7eaadf305a"), looks := true }, kinds := [], alts := [], laidByText := true, laidKinds := [.data, .data, .data, .sentinel, .sentinel, .mapped], laidTests := true, laidLooks := .later }
def TypesWholeUptoCardSaid : Prop := Claim7.holds Tryz.pinned (.plain (OpenSpec.upto typesWholeSpec)) typesWholeUptoCard

/-- THE SECOND FORM's CARD OF 'campanilelaw01.TypesFloats'. -/
def typesFloatsUptoCard : Claim7 := { stood := { row := typesFloatsUptoRow, standIns := [], harness := (true, "aa91f1641f87da69735112e5d5080cdac7f639d60bcc704b1e7a4c7eaadf305a"), looks := true }, kinds := [], alts := [], laidByText := true, laidKinds := [.data, .data, .data, .sentinel, .sentinel, .mapped], laidTests := true, laidLooks := .later }
def TypesFloatsUptoCardSaid : Prop := Claim7.holds Tryz.pinned (.plain (OpenSpec.upto typesFloatsSpec)) typesFloatsUptoCard

/-- THE SECOND FORM's CARD OF 'campanilelaw01.TypesKnown'. -/
def typesKnownUptoCard : Claim7 := { stood := { row := typesKnownUptoRow, standIns := [], harness := (true, "aa91f1641f87da69735112e5d5080cdac7f639d60bcc704b1e7a4c7eaadf305a"), looks := true }, kinds := [], alts := [], laidByText := true, laidKinds := [.data, .data, .data, .sentinel, .sentinel, .mapped], laidTests := true, laidLooks := .later }
def TypesKnownUptoCardSaid : Prop := Claim7.holds Tryz.pinned (.plain (OpenSpec.upto typesKnownSpec)) typesKnownUptoCard

/-- THE SECOND FORM's CARD OF 'campanilelaw01.TypesSizes'. -/
def typesSizesUptoCard : Claim7 := { stood := { row := typesSizesUptoRow, standIns := [], harness := (true, "aa91f1641f87da69735112e5d5080cdac7f639d60bcc704b1e7a4c7eaadf305a"), looks := true }, kinds := [], alts := [], laidByText := true, laidKinds := [.data, .data, .data, .sentinel, .sentinel, .mapped], laidTests := true, laidLooks := .later }
def TypesSizesUptoCardSaid : Prop := Claim7.holds Tryz.pinned (.plain (OpenSpec.upto typesSizesSpec)) typesSizesUptoCard
end Rows
end Go.Proofs.YtcgcghldgomelaaGreatDoor
