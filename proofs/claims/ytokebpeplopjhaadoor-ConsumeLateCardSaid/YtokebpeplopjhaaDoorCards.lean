/-
  DERIVED. GIVEN WITH THE SEED: THE CARDS: each row of YtokebpeplopjhaaDoorRows.lean that lists a variable, with what it lists TIED to the program's text (the seventh form; the later family's looks); each row that meets fmt, with fmt's text TOLD by the authors' own Lean function (tested against real Go, not proved from fmt's source: count such statements apart). THE CARD IS WHAT COUNTS. Prove the row's statement (the work); the ties are given (YtokebpeplopjhaaDoorTie.lean); close each card by the builder's one call (the guide's Derived/Test/ToyasCard.lean, 'card_holds'). Laid BY PROGRAM, IN A SANDBOX (cutbox-door.mjs). By AI agents, Wed Nov 11 2026. No macro, syntax, notation, axiom, sorry.
-/
import Derived.Test.YtokebpeplopjhaaDoorRows
import GoSem.ClaimSeven
namespace Go.Proofs.YtokebpeplopjhaaDoor
namespace Rows

/-- THE TIED CARD OF 'campanilelaw12.MappingBack'. -/
def mappingBackCard : Claim7 := { stood := { row := mappingBackRow, standIns := [], harness := (true, "30594f60a7411d9d483452cbff731959e3d49909552d04299c648821f2b73f79"), looks := false }, kinds := [], alts := [], laidByText := true, laidKinds := [.mapped], laidTests := true, laidLooks := .later }
def MappingBackCardSaid : Prop := Claim7.holds Tryd.pinned (.plain (OpenSpec.ofChange mappingBackSpec)) mappingBackCard

/-- THE TIED CARD OF 'campanilelaw12.MappingBits'. -/
def mappingBitsCard : Claim7 := { stood := { row := mappingBitsRow, standIns := [], harness := (true, "30594f60a7411d9d483452cbff731959e3d49909552d04299c648821f2b73f79"), looks := false }, kinds := [], alts := [], laidByText := true, laidKinds := [.mapped], laidTests := true, laidLooks := .later }
def MappingBitsCardSaid : Prop := Claim7.holds Tryd.pinned (.plain (OpenSpec.ofChange mappingBitsSpec)) mappingBitsCard

/-- THE TIED CARD OF 'campanilelaw12.MappingGaps'. -/
def mappingGapsCard : Claim7 := { stood := { row := mappingGapsRow, standIns := [], harness := (true, "30594f60a7411d9d483452cbff731959e3d49909552d04299c648821f2b73f79"), looks := false }, kinds := [], alts := [], laidByText := true, laidKinds := [.mapped], laidTests := true, laidLooks := .later }
def MappingGapsCardSaid : Prop := Claim7.holds Tryd.pinned (.plain (OpenSpec.ofChange mappingGapsSpec)) mappingGapsCard

/-- THE TIED CARD OF 'campanilelaw12.MappingKnown'. -/
def mappingKnownCard : Claim7 := { stood := { row := mappingKnownRow, standIns := [], harness := (true, "30594f60a7411d9d483452cbff731959e3d49909552d04299c648821f2b73f79"), looks := false }, kinds := [], alts := [], laidByText := true, laidKinds := [.mapped], laidTests := true, laidLooks := .later }
def MappingKnownCardSaid : Prop := Claim7.holds Tryd.pinned (.plain (OpenSpec.ofChange mappingKnownSpec)) mappingKnownCard

/-- THE TIED CARD OF 'campanilelaw12.MappingChecks'. -/
def mappingChecksCard : Claim7 := { stood := { row := mappingChecksRow, standIns := [], harness := (true, "30594f60a7411d9d483452cbff731959e3d49909552d04299c648821f2b73f79"), looks := false }, kinds := [], alts := [], laidByText := true, laidKinds := [.mapped], laidTests := true, laidLooks := .later }
def MappingChecksCardSaid : Prop := Claim7.holds Tryd.pinned (.plain (OpenSpec.ofChange mappingChecksSpec)) mappingChecksCard

/-- THE TIED CARD OF 'campanilelaw12.MappingPacks'. -/
def mappingPacksCard : Claim7 := { stood := { row := mappingPacksRow, standIns := [], harness := (true, "30594f60a7411d9d483452cbff731959e3d49909552d04299c648821f2b73f79"), looks := false }, kinds := [], alts := [], laidByText := true, laidKinds := [.mapped], laidTests := true, laidLooks := .later }
def MappingPacksCardSaid : Prop := Claim7.holds Tryd.pinned (.plain (OpenSpec.ofChange mappingPacksSpec)) mappingPacksCard

/-- THE TIED CARD OF 'campanilelaw12.MappingWrites'. -/
def mappingWritesCard : Claim7 := { stood := { row := mappingWritesRow, standIns := [], harness := (true, "30594f60a7411d9d483452cbff731959e3d49909552d04299c648821f2b73f79"), looks := false }, kinds := [], alts := [], laidByText := true, laidKinds := [.mapped], laidTests := true, laidLooks := .later }
def MappingWritesCardSaid : Prop := Claim7.holds Tryd.pinned (.plain (OpenSpec.ofChange mappingWritesSpec)) mappingWritesCard

/-- THE TIED CARD OF 'campanilelaw12.MappingNumbers'. -/
def mappingNumbersCard : Claim7 := { stood := { row := mappingNumbersRow, standIns := [], harness := (true, "30594f60a7411d9d483452cbff731959e3d49909552d04299c648821f2b73f79"), looks := false }, kinds := [], alts := [], laidByText := true, laidKinds := [.mapped], laidTests := true, laidLooks := .later }
def MappingNumbersCardSaid : Prop := Claim7.holds Tryd.pinned (.plain (OpenSpec.ofChange mappingNumbersSpec)) mappingNumbersCard

/-- THE TIED CARD OF 'campanilelaw13.ProduceInhibits'. -/
def produceInhibitsCard : Claim7 := { stood := { row := produceInhibitsRow, standIns := [], harness := (true, "30594f60a7411d9d483452cbff731959e3d49909552d04299c648821f2b73f79"), looks := false }, kinds := [], alts := [], laidByText := true, laidKinds := [.mapped], laidTests := true, laidLooks := .later }
def ProduceInhibitsCardSaid : Prop := Claim7.holds Tryd.pinned (.plain (OpenSpec.ofChange produceInhibitsSpec)) produceInhibitsCard

/-- THE TIED CARD OF 'campanilelaw13.ProduceBeats'. -/
def produceBeatsCard : Claim7 := { stood := { row := produceBeatsRow, standIns := [], harness := (true, "30594f60a7411d9d483452cbff731959e3d49909552d04299c648821f2b73f79"), looks := false }, kinds := [], alts := [], laidByText := true, laidKinds := [.mapped], laidTests := true, laidLooks := .later }
def ProduceBeatsCardSaid : Prop := Claim7.holds Tryd.pinned (.plain (OpenSpec.ofChange produceBeatsSpec)) produceBeatsCard

/-- THE TIED CARD OF 'campanilelaw14.ConsumeLate'. -/
def consumeLateCard : Claim7 := { stood := { row := consumeLateRow, standIns := [], harness := (true, "30594f60a7411d9d483452cbff731959e3d49909552d04299c648821f2b73f79"), looks := false }, kinds := [], alts := [], laidByText := true, laidKinds := [.mapped], laidTests := true, laidLooks := .later }
def ConsumeLateCardSaid : Prop := Claim7.holds Tryd.pinned (.plain (OpenSpec.ofChange consumeLateSpec)) consumeLateCard

/-- THE TIED CARD OF 'campanilelaw13.ProduceKnown'. -/
def produceKnownCard : Claim7 := { stood := { row := produceKnownRow, standIns := [], harness := (true, "30594f60a7411d9d483452cbff731959e3d49909552d04299c648821f2b73f79"), looks := false }, kinds := [], alts := [], laidByText := true, laidKinds := [.mapped], laidTests := true, laidLooks := .later }
def ProduceKnownCardSaid : Prop := Claim7.holds Tryd.pinned (.plain (OpenSpec.ofChange produceKnownSpec)) produceKnownCard

/-- THE TIED CARD OF 'campanilelaw14.ConsumeKnown'. -/
def consumeKnownCard : Claim7 := { stood := { row := consumeKnownRow, standIns := [], harness := (true, "30594f60a7411d9d483452cbff731959e3d49909552d04299c648821f2b73f79"), looks := false }, kinds := [], alts := [], laidByText := true, laidKinds := [.mapped], laidTests := true, laidLooks := .later }
def ConsumeKnownCardSaid : Prop := Claim7.holds Tryd.pinned (.plain (OpenSpec.ofChange consumeKnownSpec)) consumeKnownCard

/-- THE TIED CARD OF 'campanilelaw14.ConsumeFollows'. -/
def consumeFollowsCard : Claim7 := { stood := { row := consumeFollowsRow, standIns := [], harness := (true, "30594f60a7411d9d483452cbff731959e3d49909552d04299c648821f2b73f79"), looks := false }, kinds := [], alts := [], laidByText := true, laidKinds := [.mapped], laidTests := true, laidLooks := .later }
def ConsumeFollowsCardSaid : Prop := Claim7.holds Tryd.pinned (.plain (OpenSpec.ofChange consumeFollowsSpec)) consumeFollowsCard

/-- THE SECOND FORM's CARD OF 'campanilelaw12.MappingBack'. -/
def mappingBackUptoCard : Claim7 := { stood := { row := mappingBackUptoRow, standIns := [], harness := (true, "30594f60a7411d9d483452cbff731959e3d49909552d04299c648821f2b73f79"), looks := false }, kinds := [], alts := [], laidByText := true, laidKinds := [.mapped], laidTests := true, laidLooks := .later }
def MappingBackUptoCardSaid : Prop := Claim7.holds Tryd.pinned (.plain (OpenSpec.upto mappingBackSpec)) mappingBackUptoCard

/-- THE SECOND FORM's CARD OF 'campanilelaw12.MappingBits'. -/
def mappingBitsUptoCard : Claim7 := { stood := { row := mappingBitsUptoRow, standIns := [], harness := (true, "30594f60a7411d9d483452cbff731959e3d49909552d04299c648821f2b73f79"), looks := false }, kinds := [], alts := [], laidByText := true, laidKinds := [.mapped], laidTests := true, laidLooks := .later }
def MappingBitsUptoCardSaid : Prop := Claim7.holds Tryd.pinned (.plain (OpenSpec.upto mappingBitsSpec)) mappingBitsUptoCard

/-- THE SECOND FORM's CARD OF 'campanilelaw12.MappingGaps'. -/
def mappingGapsUptoCard : Claim7 := { stood := { row := mappingGapsUptoRow, standIns := [], harness := (true, "30594f60a7411d9d483452cbff731959e3d49909552d04299c648821f2b73f79"), looks := false }, kinds := [], alts := [], laidByText := true, laidKinds := [.mapped], laidTests := true, laidLooks := .later }
def MappingGapsUptoCardSaid : Prop := Claim7.holds Tryd.pinned (.plain (OpenSpec.upto mappingGapsSpec)) mappingGapsUptoCard

/-- THE SECOND FORM's CARD OF 'campanilelaw12.MappingKnown'. -/
def mappingKnownUptoCard : Claim7 := { stood := { row := mappingKnownUptoRow, standIns := [], harness := (true, "30594f60a7411d9d483452cbff731959e3d49909552d04299c648821f2b73f79"), looks := false }, kinds := [], alts := [], laidByText := true, laidKinds := [.mapped], laidTests := true, laidLooks := .later }
def MappingKnownUptoCardSaid : Prop := Claim7.holds Tryd.pinned (.plain (OpenSpec.upto mappingKnownSpec)) mappingKnownUptoCard

/-- THE SECOND FORM's CARD OF 'campanilelaw12.MappingChecks'. -/
def mappingChecksUptoCard : Claim7 := { stood := { row := mappingChecksUptoRow, standIns := [], harness := (true, "30594f60a7411d9d483452cbff731959e3d49909552d04299c648821f2b73f79"), looks := false }, kinds := [], alts := [], laidByText := true, laidKinds := [.mapped], laidTests := true, laidLooks := .later }
def MappingChecksUptoCardSaid : Prop := Claim7.holds Tryd.pinned (.plain (OpenSpec.upto mappingChecksSpec)) mappingChecksUptoCard

/-- THE SECOND FORM's CARD OF 'campanilelaw12.MappingPacks'. -/
def mappingPacksUptoCard : Claim7 := { stood := { row := mappingPacksUptoRow, standIns := [], harness := (true, "30594f60a7411d9d483452cbff731959e3d49909552d04299c648821f2b73f79"), looks := false }, kinds := [], alts := [], laidByText := true, laidKinds := [.mapped], laidTests := true, laidLooks := .later }
def MappingPacksUptoCardSaid : Prop := Claim7.holds Tryd.pinned (.plain (OpenSpec.upto mappingPacksSpec)) mappingPacksUptoCard

/-- THE SECOND FORM's CARD OF 'campanilelaw12.MappingWrites'. -/
def mappingWritesUptoCard : Claim7 := { stood := { row := mappingWritesUptoRow, standIns := [], harness := (true, "30594f60a7411d9d483452cbff731959e3d49909552d04299c648821f2b73f79"), looks := false }, kinds := [], alts := [], laidByText := true, laidKinds := [.mapped], laidTests := true, laidLooks := .later }
def MappingWritesUptoCardSaid : Prop := Claim7.holds Tryd.pinned (.plain (OpenSpec.upto mappingWritesSpec)) mappingWritesUptoCard

/-- THE SECOND FORM's CARD OF 'campanilelaw12.MappingNumbers'. -/
def mappingNumbersUptoCard : Claim7 := { stood := { row := mappingNumbersUptoRow, standIns := [], harness := (true, "30594f60a7411d9d483452cbff731959e3d49909552d04299c648821f2b73f79"), looks := false }, kinds := [], alts := [], laidByText := true, laidKinds := [.mapped], laidTests := true, laidLooks := .later }
def MappingNumbersUptoCardSaid : Prop := Claim7.holds Tryd.pinned (.plain (OpenSpec.upto mappingNumbersSpec)) mappingNumbersUptoCard

/-- THE SECOND FORM's CARD OF 'campanilelaw13.ProduceInhibits'. -/
def produceInhibitsUptoCard : Claim7 := { stood := { row := produceInhibitsUptoRow, standIns := [], harness := (true, "30594f60a7411d9d483452cbff731959e3d49909552d04299c648821f2b73f79"), looks := false }, kinds := [], alts := [], laidByText := true, laidKinds := [.mapped], laidTests := true, laidLooks := .later }
def ProduceInhibitsUptoCardSaid : Prop := Claim7.holds Tryd.pinned (.plain (OpenSpec.upto produceInhibitsSpec)) produceInhibitsUptoCard

/-- THE SECOND FORM's CARD OF 'campanilelaw13.ProduceBeats'. -/
def produceBeatsUptoCard : Claim7 := { stood := { row := produceBeatsUptoRow, standIns := [], harness := (true, "30594f60a7411d9d483452cbff731959e3d49909552d04299c648821f2b73f79"), looks := false }, kinds := [], alts := [], laidByText := true, laidKinds := [.mapped], laidTests := true, laidLooks := .later }
def ProduceBeatsUptoCardSaid : Prop := Claim7.holds Tryd.pinned (.plain (OpenSpec.upto produceBeatsSpec)) produceBeatsUptoCard

/-- THE SECOND FORM's CARD OF 'campanilelaw14.ConsumeLate'. -/
def consumeLateUptoCard : Claim7 := { stood := { row := consumeLateUptoRow, standIns := [], harness := (true, "30594f60a7411d9d483452cbff731959e3d49909552d04299c648821f2b73f79"), looks := false }, kinds := [], alts := [], laidByText := true, laidKinds := [.mapped], laidTests := true, laidLooks := .later }
def ConsumeLateUptoCardSaid : Prop := Claim7.holds Tryd.pinned (.plain (OpenSpec.upto consumeLateSpec)) consumeLateUptoCard

/-- THE SECOND FORM's CARD OF 'campanilelaw13.ProduceKnown'. -/
def produceKnownUptoCard : Claim7 := { stood := { row := produceKnownUptoRow, standIns := [], harness := (true, "30594f60a7411d9d483452cbff731959e3d49909552d04299c648821f2b73f79"), looks := false }, kinds := [], alts := [], laidByText := true, laidKinds := [.mapped], laidTests := true, laidLooks := .later }
def ProduceKnownUptoCardSaid : Prop := Claim7.holds Tryd.pinned (.plain (OpenSpec.upto produceKnownSpec)) produceKnownUptoCard

/-- THE SECOND FORM's CARD OF 'campanilelaw14.ConsumeKnown'. -/
def consumeKnownUptoCard : Claim7 := { stood := { row := consumeKnownUptoRow, standIns := [], harness := (true, "30594f60a7411d9d483452cbff731959e3d49909552d04299c648821f2b73f79"), looks := false }, kinds := [], alts := [], laidByText := true, laidKinds := [.mapped], laidTests := true, laidLooks := .later }
def ConsumeKnownUptoCardSaid : Prop := Claim7.holds Tryd.pinned (.plain (OpenSpec.upto consumeKnownSpec)) consumeKnownUptoCard

/-- THE SECOND FORM's CARD OF 'campanilelaw14.ConsumeFollows'. -/
def consumeFollowsUptoCard : Claim7 := { stood := { row := consumeFollowsUptoRow, standIns := [], harness := (true, "30594f60a7411d9d483452cbff731959e3d49909552d04299c648821f2b73f79"), looks := false }, kinds := [], alts := [], laidByText := true, laidKinds := [.mapped], laidTests := true, laidLooks := .later }
def ConsumeFollowsUptoCardSaid : Prop := Claim7.holds Tryd.pinned (.plain (OpenSpec.upto consumeFollowsSpec)) consumeFollowsUptoCard
end Rows
end Go.Proofs.YtokebpeplopjhaaDoor
