/-
  NARROWER THAN 'FOR EVERY INPUT', by the rows' own cells (each row's printed sentence says how): MappingBack: laid · MappingBits: laid · MappingGaps: laid · MappingKnown: laid · MappingChecks: laid · MappingPacks: laid · MappingWrites: laid · MappingNumbers: laid · ProduceInhibits: laid · ProduceBeats: laid · ConsumeLate: laid · ProduceKnown: laid · ConsumeKnown: laid · ConsumeFollows: laid.
  DERIVED. THE GIVEN ROWS OF THIS SEAT. 14 by the template 'for every input the law returns true; each argument reads behind the call as it read before'; 0 by the template 'total and deterministic' (their statements: YtokebpeplopjhaaDoorTotals.lean).
  GIVEN WITH THE SEED: the statements are not yours to turn. If you find one false, say at which input.
  Laid BY PROGRAM, IN A SANDBOX (cutbox-rows.mjs): the forced cells as the released guide's own fill.sh prints them over the translation 439f6a9e1e204ab2… (all of the seat's roots in one cut). By AI agents, Wed Nov 11 2026. No macro, syntax, notation, axiom, sorry.
-/
import Derived.Test.YtokebpeplopjhaaDoorChecked
import GoSem.Claim
import GoSem.ClaimJoined
import GoSem.ClaimMapViews
import Derived.JoinedTies
import Derived.KernelRfl
namespace Go.Proofs.YtokebpeplopjhaaDoor
/- THE CELL 'sum', in the pinned program and in every row, IS THE sha256 OF THE DUMP (.gsa) THAT YtokebpeplopjhaaDoorProg.lean LOADS. Nothing in Lean hashes anything: it is a label: what it is worth is what the hold of that sum in a sandbox is worth. -/
noncomputable def Tryd.pinned : Pinned := { name := "ytokebpeplopjhaadoor", sum := "439f6a9e1e204ab2b480c4b3a22029c1c4af9be35a0db06a09784cdb4d44e1e0", checked := Tryd.checked }
namespace Rows
def none {H : Type} : Left H := { results := [], args := [] }

/- WHAT THE LISTED PACKAGE-LEVEL VARIABLES READ AS WHEN THE CALL BEGINS. Each datum BY PROGRAM (the guide's laid-datum.mjs) off the statement by which the dump's own 'gosem.cut.vars' lays the variable. In a bare row this is a premise. The card (YtokebpeplopjhaaDoorCards.lean) ties it to the program's text. -/
def laid_campanile_types_table {H : Type} : DataW H := .map [(.int .u8 1, .agg [.lit (.int .u8 1), .lit (.int .i64 1)]), (.int .u8 2, .agg [.lit (.int .u8 2), .lit (.int .i64 1)]), (.int .u8 3, .agg [.lit (.int .u8 2), .lit (.int .i64 2)]), (.int .u8 4, .agg [.lit (.int .u8 2), .lit (.int .i64 4)]), (.int .u8 5, .agg [.lit (.int .u8 3), .lit (.int .i64 1)]), (.int .u8 6, .agg [.lit (.int .u8 3), .lit (.int .i64 2)]), (.int .u8 7, .agg [.lit (.int .u8 3), .lit (.int .i64 4)]), (.int .u8 8, .agg [.lit (.int .u8 4), .lit (.int .i64 4)]), (.int .u8 9, .agg [.lit (.int .u8 6), .lit (.int .i64 0)]), (.int .u8 10, .agg [.lit (.int .u8 6), .lit (.int .i64 0)]), (.int .u8 12, .agg [.lit (.int .u8 5), .lit (.int .i64 6)]), (.int .u8 13, .agg [.lit (.int .u8 5), .lit (.int .i64 6)]), (.int .u8 15, .agg [.lit (.int .u8 6), .lit (.int .i64 0)]), (.int .u8 16, .agg [.lit (.int .u8 2), .lit (.int .i64 3)]), (.int .u8 17, .agg [.lit (.int .u8 4), .lit (.int .i64 8)]), (.int .u8 21, .agg [.lit (.int .u8 2), .lit (.int .i64 8)]), (.int .u8 22, .agg [.lit (.int .u8 3), .lit (.int .i64 3)]), (.int .u8 27, .agg [.lit (.int .u8 3), .lit (.int .i64 8)])]

/-- 'campanilelaw12.MappingBack': WHATEVER THE INPUT: true; the input reads as it did. -/
def mappingBackSpec : ChangeSpec := { name := "mappingBack", fn := fun _ => fun
  | [d1, d2, d3] => { results := [.lit (.bool true)], args := [d1, d2, d3] }
  | _ => none }
def mappingBackRow : OpenClaim := { program := "ytokebpeplopjhaadoor", sum := "439f6a9e1e204ab2b480c4b3a22029c1c4af9be35a0db06a09784cdb4d44e1e0", func := "campanile/campanilelaw12.MappingBack", spec := "mappingBack", inPlace := ["math.Float32frombits", "math.Float64frombits", "math.Float64bits"], unfollowed := true, recurses := true, named := ["campanile/types.table"], plainKeys := false, apart := false, laid := [("campanile/types.table", laid_campanile_types_table)] }
def MappingBackSaid : Prop := mappingBackRow.holds Tryd.pinned (OpenSpec.ofChange mappingBackSpec)

/-- ITS FALSE NEIGHBOUR: 'it returns false'. Refute it at one input. -/
def mappingBackWrong : ChangeSpec := { name := "mappingBack", fn := fun _ => fun
  | [d1, d2, d3] => { results := [.lit (.bool false)], args := [d1, d2, d3] }
  | _ => none }
def MappingBackWrongFalsely : Prop := mappingBackRow.holds Tryd.pinned (OpenSpec.ofChange mappingBackWrong)

/-- 'campanilelaw12.MappingBits': WHATEVER THE INPUT: true; the input reads as it did. -/
def mappingBitsSpec : ChangeSpec := { name := "mappingBits", fn := fun _ => fun
  | [d1, d2] => { results := [.lit (.bool true)], args := [d1, d2] }
  | _ => none }
def mappingBitsRow : OpenClaim := { program := "ytokebpeplopjhaadoor", sum := "439f6a9e1e204ab2b480c4b3a22029c1c4af9be35a0db06a09784cdb4d44e1e0", func := "campanile/campanilelaw12.MappingBits", spec := "mappingBits", inPlace := ["math.Float32frombits", "math.Float64frombits", "math.Float64bits"], unfollowed := true, recurses := true, named := ["campanile/types.table"], plainKeys := false, apart := false, laid := [("campanile/types.table", laid_campanile_types_table)] }
def MappingBitsSaid : Prop := mappingBitsRow.holds Tryd.pinned (OpenSpec.ofChange mappingBitsSpec)

/-- ITS FALSE NEIGHBOUR: 'it returns false'. Refute it at one input. -/
def mappingBitsWrong : ChangeSpec := { name := "mappingBits", fn := fun _ => fun
  | [d1, d2] => { results := [.lit (.bool false)], args := [d1, d2] }
  | _ => none }
def MappingBitsWrongFalsely : Prop := mappingBitsRow.holds Tryd.pinned (OpenSpec.ofChange mappingBitsWrong)

/-- 'campanilelaw12.MappingGaps': WHATEVER THE INPUT: true; the input reads as it did. -/
def mappingGapsSpec : ChangeSpec := { name := "mappingGaps", fn := fun _ => fun
  | [d1, d2, d3, d4] => { results := [.lit (.bool true)], args := [d1, d2, d3, d4] }
  | _ => none }
def mappingGapsRow : OpenClaim := { program := "ytokebpeplopjhaadoor", sum := "439f6a9e1e204ab2b480c4b3a22029c1c4af9be35a0db06a09784cdb4d44e1e0", func := "campanile/campanilelaw12.MappingGaps", spec := "mappingGaps", inPlace := ["math.Float32frombits", "math.Float64frombits", "math.Float64bits"], unfollowed := true, recurses := true, named := ["campanile/types.table"], plainKeys := false, apart := false, laid := [("campanile/types.table", laid_campanile_types_table)] }
def MappingGapsSaid : Prop := mappingGapsRow.holds Tryd.pinned (OpenSpec.ofChange mappingGapsSpec)

/-- ITS FALSE NEIGHBOUR: 'it returns false'. Refute it at one input. -/
def mappingGapsWrong : ChangeSpec := { name := "mappingGaps", fn := fun _ => fun
  | [d1, d2, d3, d4] => { results := [.lit (.bool false)], args := [d1, d2, d3, d4] }
  | _ => none }
def MappingGapsWrongFalsely : Prop := mappingGapsRow.holds Tryd.pinned (OpenSpec.ofChange mappingGapsWrong)

/-- 'campanilelaw12.MappingKnown': WHATEVER THE INPUT: true; the input reads as it did. -/
def mappingKnownSpec : ChangeSpec := { name := "mappingKnown", fn := fun _ => fun
  | [] => { results := [.lit (.bool true)], args := [] }
  | _ => none }
def mappingKnownRow : OpenClaim := { program := "ytokebpeplopjhaadoor", sum := "439f6a9e1e204ab2b480c4b3a22029c1c4af9be35a0db06a09784cdb4d44e1e0", func := "campanile/campanilelaw12.MappingKnown", spec := "mappingKnown", inPlace := ["math.Float32frombits", "math.Float64frombits", "math.Float64bits"], unfollowed := true, recurses := true, named := ["campanile/types.table"], plainKeys := false, apart := false, laid := [("campanile/types.table", laid_campanile_types_table)] }
def MappingKnownSaid : Prop := mappingKnownRow.holds Tryd.pinned (OpenSpec.ofChange mappingKnownSpec)

/-- ITS FALSE NEIGHBOUR: 'it returns false'. Refute it at one input. -/
def mappingKnownWrong : ChangeSpec := { name := "mappingKnown", fn := fun _ => fun
  | [] => { results := [.lit (.bool false)], args := [] }
  | _ => none }
def MappingKnownWrongFalsely : Prop := mappingKnownRow.holds Tryd.pinned (OpenSpec.ofChange mappingKnownWrong)

/-- 'campanilelaw12.MappingChecks': WHATEVER THE INPUT: true; the input reads as it did. -/
def mappingChecksSpec : ChangeSpec := { name := "mappingChecks", fn := fun _ => fun
  | [d1, d2] => { results := [.lit (.bool true)], args := [d1, d2] }
  | _ => none }
def mappingChecksRow : OpenClaim := { program := "ytokebpeplopjhaadoor", sum := "439f6a9e1e204ab2b480c4b3a22029c1c4af9be35a0db06a09784cdb4d44e1e0", func := "campanile/campanilelaw12.MappingChecks", spec := "mappingChecks", inPlace := ["math.Float32frombits", "math.Float64frombits", "math.Float64bits"], unfollowed := true, recurses := true, named := ["campanile/types.table"], plainKeys := false, apart := false, laid := [("campanile/types.table", laid_campanile_types_table)] }
def MappingChecksSaid : Prop := mappingChecksRow.holds Tryd.pinned (OpenSpec.ofChange mappingChecksSpec)

/-- ITS FALSE NEIGHBOUR: 'it returns false'. Refute it at one input. -/
def mappingChecksWrong : ChangeSpec := { name := "mappingChecks", fn := fun _ => fun
  | [d1, d2] => { results := [.lit (.bool false)], args := [d1, d2] }
  | _ => none }
def MappingChecksWrongFalsely : Prop := mappingChecksRow.holds Tryd.pinned (OpenSpec.ofChange mappingChecksWrong)

/-- 'campanilelaw12.MappingPacks': WHATEVER THE INPUT: true; the input reads as it did. -/
def mappingPacksSpec : ChangeSpec := { name := "mappingPacks", fn := fun _ => fun
  | [d1, d2] => { results := [.lit (.bool true)], args := [d1, d2] }
  | _ => none }
def mappingPacksRow : OpenClaim := { program := "ytokebpeplopjhaadoor", sum := "439f6a9e1e204ab2b480c4b3a22029c1c4af9be35a0db06a09784cdb4d44e1e0", func := "campanile/campanilelaw12.MappingPacks", spec := "mappingPacks", inPlace := ["math.Float32frombits", "math.Float64frombits", "math.Float64bits"], unfollowed := true, recurses := true, named := ["campanile/types.table"], plainKeys := false, apart := false, laid := [("campanile/types.table", laid_campanile_types_table)] }
def MappingPacksSaid : Prop := mappingPacksRow.holds Tryd.pinned (OpenSpec.ofChange mappingPacksSpec)

/-- ITS FALSE NEIGHBOUR: 'it returns false'. Refute it at one input. -/
def mappingPacksWrong : ChangeSpec := { name := "mappingPacks", fn := fun _ => fun
  | [d1, d2] => { results := [.lit (.bool false)], args := [d1, d2] }
  | _ => none }
def MappingPacksWrongFalsely : Prop := mappingPacksRow.holds Tryd.pinned (OpenSpec.ofChange mappingPacksWrong)

/-- 'campanilelaw12.MappingWrites': WHATEVER THE INPUT: true; the input reads as it did. -/
def mappingWritesSpec : ChangeSpec := { name := "mappingWrites", fn := fun _ => fun
  | [d1, d2, d3] => { results := [.lit (.bool true)], args := [d1, d2, d3] }
  | _ => none }
def mappingWritesRow : OpenClaim := { program := "ytokebpeplopjhaadoor", sum := "439f6a9e1e204ab2b480c4b3a22029c1c4af9be35a0db06a09784cdb4d44e1e0", func := "campanile/campanilelaw12.MappingWrites", spec := "mappingWrites", inPlace := ["math.Float32frombits", "math.Float64frombits", "math.Float64bits"], unfollowed := true, recurses := true, named := ["campanile/types.table"], plainKeys := false, apart := false, laid := [("campanile/types.table", laid_campanile_types_table)] }
def MappingWritesSaid : Prop := mappingWritesRow.holds Tryd.pinned (OpenSpec.ofChange mappingWritesSpec)

/-- ITS FALSE NEIGHBOUR: 'it returns false'. Refute it at one input. -/
def mappingWritesWrong : ChangeSpec := { name := "mappingWrites", fn := fun _ => fun
  | [d1, d2, d3] => { results := [.lit (.bool false)], args := [d1, d2, d3] }
  | _ => none }
def MappingWritesWrongFalsely : Prop := mappingWritesRow.holds Tryd.pinned (OpenSpec.ofChange mappingWritesWrong)

/-- 'campanilelaw12.MappingNumbers': WHATEVER THE INPUT: true; the input reads as it did. -/
def mappingNumbersSpec : ChangeSpec := { name := "mappingNumbers", fn := fun _ => fun
  | [d1, d2] => { results := [.lit (.bool true)], args := [d1, d2] }
  | _ => none }
def mappingNumbersRow : OpenClaim := { program := "ytokebpeplopjhaadoor", sum := "439f6a9e1e204ab2b480c4b3a22029c1c4af9be35a0db06a09784cdb4d44e1e0", func := "campanile/campanilelaw12.MappingNumbers", spec := "mappingNumbers", inPlace := ["math.Float32frombits", "math.Float64frombits", "math.Float64bits"], unfollowed := true, recurses := true, named := ["campanile/types.table"], plainKeys := false, apart := false, laid := [("campanile/types.table", laid_campanile_types_table)] }
def MappingNumbersSaid : Prop := mappingNumbersRow.holds Tryd.pinned (OpenSpec.ofChange mappingNumbersSpec)

/-- ITS FALSE NEIGHBOUR: 'it returns false'. Refute it at one input. -/
def mappingNumbersWrong : ChangeSpec := { name := "mappingNumbers", fn := fun _ => fun
  | [d1, d2] => { results := [.lit (.bool false)], args := [d1, d2] }
  | _ => none }
def MappingNumbersWrongFalsely : Prop := mappingNumbersRow.holds Tryd.pinned (OpenSpec.ofChange mappingNumbersWrong)

/-- 'campanilelaw13.ProduceInhibits': WHATEVER THE INPUT: true; the input reads as it did. -/
def produceInhibitsSpec : ChangeSpec := { name := "produceInhibits", fn := fun _ => fun
  | [d1, d2, d3] => { results := [.lit (.bool true)], args := [d1, d2, d3] }
  | _ => none }
def produceInhibitsRow : OpenClaim := { program := "ytokebpeplopjhaadoor", sum := "439f6a9e1e204ab2b480c4b3a22029c1c4af9be35a0db06a09784cdb4d44e1e0", func := "campanile/campanilelaw13.ProduceInhibits", spec := "produceInhibits", inPlace := ["math.Float32frombits", "math.Float64frombits", "math.Float64bits"], unfollowed := true, recurses := true, named := ["campanile/types.table"], plainKeys := false, apart := false, laid := [("campanile/types.table", laid_campanile_types_table)] }
def ProduceInhibitsSaid : Prop := produceInhibitsRow.holds Tryd.pinned (OpenSpec.ofChange produceInhibitsSpec)

/-- ITS FALSE NEIGHBOUR: 'it returns false'. Refute it at one input. -/
def produceInhibitsWrong : ChangeSpec := { name := "produceInhibits", fn := fun _ => fun
  | [d1, d2, d3] => { results := [.lit (.bool false)], args := [d1, d2, d3] }
  | _ => none }
def ProduceInhibitsWrongFalsely : Prop := produceInhibitsRow.holds Tryd.pinned (OpenSpec.ofChange produceInhibitsWrong)

/-- 'campanilelaw13.ProduceBeats': WHATEVER THE INPUT: true; the input reads as it did. -/
def produceBeatsSpec : ChangeSpec := { name := "produceBeats", fn := fun _ => fun
  | [d1, d2, d3] => { results := [.lit (.bool true)], args := [d1, d2, d3] }
  | _ => none }
def produceBeatsRow : OpenClaim := { program := "ytokebpeplopjhaadoor", sum := "439f6a9e1e204ab2b480c4b3a22029c1c4af9be35a0db06a09784cdb4d44e1e0", func := "campanile/campanilelaw13.ProduceBeats", spec := "produceBeats", inPlace := ["math.Float32frombits", "math.Float64frombits", "math.Float64bits"], unfollowed := true, recurses := true, named := ["campanile/types.table"], plainKeys := false, apart := false, laid := [("campanile/types.table", laid_campanile_types_table)] }
def ProduceBeatsSaid : Prop := produceBeatsRow.holds Tryd.pinned (OpenSpec.ofChange produceBeatsSpec)

/-- ITS FALSE NEIGHBOUR: 'it returns false'. Refute it at one input. -/
def produceBeatsWrong : ChangeSpec := { name := "produceBeats", fn := fun _ => fun
  | [d1, d2, d3] => { results := [.lit (.bool false)], args := [d1, d2, d3] }
  | _ => none }
def ProduceBeatsWrongFalsely : Prop := produceBeatsRow.holds Tryd.pinned (OpenSpec.ofChange produceBeatsWrong)

/-- 'campanilelaw14.ConsumeLate': WHATEVER THE INPUT: true; the input reads as it did. -/
def consumeLateSpec : ChangeSpec := { name := "consumeLate", fn := fun _ => fun
  | [d1, d2] => { results := [.lit (.bool true)], args := [d1, d2] }
  | _ => none }
def consumeLateRow : OpenClaim := { program := "ytokebpeplopjhaadoor", sum := "439f6a9e1e204ab2b480c4b3a22029c1c4af9be35a0db06a09784cdb4d44e1e0", func := "campanile/campanilelaw14.ConsumeLate", spec := "consumeLate", inPlace := ["math.Float32frombits", "math.Float64frombits", "math.Float64bits"], unfollowed := true, recurses := true, named := ["campanile/types.table"], plainKeys := false, apart := false, laid := [("campanile/types.table", laid_campanile_types_table)] }
def ConsumeLateSaid : Prop := consumeLateRow.holds Tryd.pinned (OpenSpec.ofChange consumeLateSpec)

/-- ITS FALSE NEIGHBOUR: 'it returns false'. Refute it at one input. -/
def consumeLateWrong : ChangeSpec := { name := "consumeLate", fn := fun _ => fun
  | [d1, d2] => { results := [.lit (.bool false)], args := [d1, d2] }
  | _ => none }
def ConsumeLateWrongFalsely : Prop := consumeLateRow.holds Tryd.pinned (OpenSpec.ofChange consumeLateWrong)

/-- 'campanilelaw13.ProduceKnown': WHATEVER THE INPUT: true; the input reads as it did. -/
def produceKnownSpec : ChangeSpec := { name := "produceKnown", fn := fun _ => fun
  | [] => { results := [.lit (.bool true)], args := [] }
  | _ => none }
def produceKnownRow : OpenClaim := { program := "ytokebpeplopjhaadoor", sum := "439f6a9e1e204ab2b480c4b3a22029c1c4af9be35a0db06a09784cdb4d44e1e0", func := "campanile/campanilelaw13.ProduceKnown", spec := "produceKnown", inPlace := ["math.Float32frombits", "math.Float64frombits", "math.Float64bits"], unfollowed := true, recurses := true, named := ["campanile/types.table"], plainKeys := false, apart := false, laid := [("campanile/types.table", laid_campanile_types_table)] }
def ProduceKnownSaid : Prop := produceKnownRow.holds Tryd.pinned (OpenSpec.ofChange produceKnownSpec)

/-- ITS FALSE NEIGHBOUR: 'it returns false'. Refute it at one input. -/
def produceKnownWrong : ChangeSpec := { name := "produceKnown", fn := fun _ => fun
  | [] => { results := [.lit (.bool false)], args := [] }
  | _ => none }
def ProduceKnownWrongFalsely : Prop := produceKnownRow.holds Tryd.pinned (OpenSpec.ofChange produceKnownWrong)

/-- 'campanilelaw14.ConsumeKnown': WHATEVER THE INPUT: true; the input reads as it did. -/
def consumeKnownSpec : ChangeSpec := { name := "consumeKnown", fn := fun _ => fun
  | [] => { results := [.lit (.bool true)], args := [] }
  | _ => none }
def consumeKnownRow : OpenClaim := { program := "ytokebpeplopjhaadoor", sum := "439f6a9e1e204ab2b480c4b3a22029c1c4af9be35a0db06a09784cdb4d44e1e0", func := "campanile/campanilelaw14.ConsumeKnown", spec := "consumeKnown", inPlace := ["math.Float32frombits", "math.Float64frombits", "math.Float64bits"], unfollowed := true, recurses := true, named := ["campanile/types.table"], plainKeys := false, apart := false, laid := [("campanile/types.table", laid_campanile_types_table)] }
def ConsumeKnownSaid : Prop := consumeKnownRow.holds Tryd.pinned (OpenSpec.ofChange consumeKnownSpec)

/-- ITS FALSE NEIGHBOUR: 'it returns false'. Refute it at one input. -/
def consumeKnownWrong : ChangeSpec := { name := "consumeKnown", fn := fun _ => fun
  | [] => { results := [.lit (.bool false)], args := [] }
  | _ => none }
def ConsumeKnownWrongFalsely : Prop := consumeKnownRow.holds Tryd.pinned (OpenSpec.ofChange consumeKnownWrong)

/-- 'campanilelaw14.ConsumeFollows': WHATEVER THE INPUT: true; the input reads as it did. -/
def consumeFollowsSpec : ChangeSpec := { name := "consumeFollows", fn := fun _ => fun
  | [d1, d2, d3, d4] => { results := [.lit (.bool true)], args := [d1, d2, d3, d4] }
  | _ => none }
def consumeFollowsRow : OpenClaim := { program := "ytokebpeplopjhaadoor", sum := "439f6a9e1e204ab2b480c4b3a22029c1c4af9be35a0db06a09784cdb4d44e1e0", func := "campanile/campanilelaw14.ConsumeFollows", spec := "consumeFollows", inPlace := ["math.Float32frombits", "math.Float64frombits", "math.Float64bits"], unfollowed := true, recurses := true, named := ["campanile/types.table"], plainKeys := false, apart := false, laid := [("campanile/types.table", laid_campanile_types_table)] }
def ConsumeFollowsSaid : Prop := consumeFollowsRow.holds Tryd.pinned (OpenSpec.ofChange consumeFollowsSpec)

/-- ITS FALSE NEIGHBOUR: 'it returns false'. Refute it at one input. -/
def consumeFollowsWrong : ChangeSpec := { name := "consumeFollows", fn := fun _ => fun
  | [d1, d2, d3, d4] => { results := [.lit (.bool false)], args := [d1, d2, d3, d4] }
  | _ => none }
def ConsumeFollowsWrongFalsely : Prop := consumeFollowsRow.holds Tryd.pinned (OpenSpec.ofChange consumeFollowsWrong)

/- THE SECOND FORM. 'bulk': how many values and letters a reading holds, each counted each time it is reached (what is shared counts as often as it is met; a slice's spare places count too). A statement '..UptoSaid' is the law's where the arguments, and the package variables that the reading takes, are together of bulk at most 1048576: NARROWER than '..Said'. Prove '..Said' where nothing that the law and all that it calls make is longer than what came in: it says more and counts as full. Else prove '..UptoSaid'. A law counts once. -/
mutual
def uptoBulk {H : Type} : DataW H → Nat
  | .lit (.string bytes) => bytes.length + 1
  | .lit _ => 1
  | .nil => 1
  | .ptr d => uptoBulk d + 1
  | .slice elems spare => uptoBulkAll elems + uptoBulkAll spare + 1
  | .agg parts => uptoBulkAll parts + 1
  | .iface _ d => uptoBulk d + 1
  | .map entries => uptoBulkEntries entries + 1
  | .held _ => 1
def uptoBulkAll {H : Type} : List (DataW H) → Nat
  | [] => 0
  | d :: r => uptoBulk d + uptoBulkAll r
def uptoBulkEntries {H : Type} : List (Lit × DataW H) → Nat
  | [] => 0
  | x :: r => uptoBulkEntry x + uptoBulkEntries r
def uptoBulkEntry {H : Type} : Lit × DataW H → Nat
  | (.string bytes, d) => bytes.length + uptoBulk d + 1
  | (_, d) => uptoBulk d + 1
 end
def uptoSmall : (H : Type) → List (DataW H) → Bool := fun _ ds => decide (uptoBulkAll ds ≤ 1048576)
def OpenSpec.upto (s : _root_.Go.ChangeSpec) : _root_.Go.OpenSpec := { _root_.Go.OpenSpec.ofChange s with cond := some uptoSmall }

/-- 'campanilelaw12.MappingBack', WHERE WHAT IT READS IS OF BULK AT MOST 1048576: true; the input reads as it did. -/
def mappingBackUptoRow : OpenClaim := { program := "ytokebpeplopjhaadoor", sum := "439f6a9e1e204ab2b480c4b3a22029c1c4af9be35a0db06a09784cdb4d44e1e0", func := "campanile/campanilelaw12.MappingBack", spec := "mappingBack", inPlace := ["math.Float32frombits", "math.Float64frombits", "math.Float64bits"], unfollowed := true, recurses := true, named := ["campanile/types.table"], plainKeys := false, apart := false, laid := [("campanile/types.table", laid_campanile_types_table)], narrowed := true }
def MappingBackUptoSaid : Prop := mappingBackUptoRow.holds Tryd.pinned (OpenSpec.upto mappingBackSpec)

/-- 'campanilelaw12.MappingBits', WHERE WHAT IT READS IS OF BULK AT MOST 1048576: true; the input reads as it did. -/
def mappingBitsUptoRow : OpenClaim := { program := "ytokebpeplopjhaadoor", sum := "439f6a9e1e204ab2b480c4b3a22029c1c4af9be35a0db06a09784cdb4d44e1e0", func := "campanile/campanilelaw12.MappingBits", spec := "mappingBits", inPlace := ["math.Float32frombits", "math.Float64frombits", "math.Float64bits"], unfollowed := true, recurses := true, named := ["campanile/types.table"], plainKeys := false, apart := false, laid := [("campanile/types.table", laid_campanile_types_table)], narrowed := true }
def MappingBitsUptoSaid : Prop := mappingBitsUptoRow.holds Tryd.pinned (OpenSpec.upto mappingBitsSpec)

/-- 'campanilelaw12.MappingGaps', WHERE WHAT IT READS IS OF BULK AT MOST 1048576: true; the input reads as it did. -/
def mappingGapsUptoRow : OpenClaim := { program := "ytokebpeplopjhaadoor", sum := "439f6a9e1e204ab2b480c4b3a22029c1c4af9be35a0db06a09784cdb4d44e1e0", func := "campanile/campanilelaw12.MappingGaps", spec := "mappingGaps", inPlace := ["math.Float32frombits", "math.Float64frombits", "math.Float64bits"], unfollowed := true, recurses := true, named := ["campanile/types.table"], plainKeys := false, apart := false, laid := [("campanile/types.table", laid_campanile_types_table)], narrowed := true }
def MappingGapsUptoSaid : Prop := mappingGapsUptoRow.holds Tryd.pinned (OpenSpec.upto mappingGapsSpec)

/-- 'campanilelaw12.MappingKnown', WHERE WHAT IT READS IS OF BULK AT MOST 1048576: true; the input reads as it did. -/
def mappingKnownUptoRow : OpenClaim := { program := "ytokebpeplopjhaadoor", sum := "439f6a9e1e204ab2b480c4b3a22029c1c4af9be35a0db06a09784cdb4d44e1e0", func := "campanile/campanilelaw12.MappingKnown", spec := "mappingKnown", inPlace := ["math.Float32frombits", "math.Float64frombits", "math.Float64bits"], unfollowed := true, recurses := true, named := ["campanile/types.table"], plainKeys := false, apart := false, laid := [("campanile/types.table", laid_campanile_types_table)], narrowed := true }
def MappingKnownUptoSaid : Prop := mappingKnownUptoRow.holds Tryd.pinned (OpenSpec.upto mappingKnownSpec)

/-- 'campanilelaw12.MappingChecks', WHERE WHAT IT READS IS OF BULK AT MOST 1048576: true; the input reads as it did. -/
def mappingChecksUptoRow : OpenClaim := { program := "ytokebpeplopjhaadoor", sum := "439f6a9e1e204ab2b480c4b3a22029c1c4af9be35a0db06a09784cdb4d44e1e0", func := "campanile/campanilelaw12.MappingChecks", spec := "mappingChecks", inPlace := ["math.Float32frombits", "math.Float64frombits", "math.Float64bits"], unfollowed := true, recurses := true, named := ["campanile/types.table"], plainKeys := false, apart := false, laid := [("campanile/types.table", laid_campanile_types_table)], narrowed := true }
def MappingChecksUptoSaid : Prop := mappingChecksUptoRow.holds Tryd.pinned (OpenSpec.upto mappingChecksSpec)

/-- 'campanilelaw12.MappingPacks', WHERE WHAT IT READS IS OF BULK AT MOST 1048576: true; the input reads as it did. -/
def mappingPacksUptoRow : OpenClaim := { program := "ytokebpeplopjhaadoor", sum := "439f6a9e1e204ab2b480c4b3a22029c1c4af9be35a0db06a09784cdb4d44e1e0", func := "campanile/campanilelaw12.MappingPacks", spec := "mappingPacks", inPlace := ["math.Float32frombits", "math.Float64frombits", "math.Float64bits"], unfollowed := true, recurses := true, named := ["campanile/types.table"], plainKeys := false, apart := false, laid := [("campanile/types.table", laid_campanile_types_table)], narrowed := true }
def MappingPacksUptoSaid : Prop := mappingPacksUptoRow.holds Tryd.pinned (OpenSpec.upto mappingPacksSpec)

/-- 'campanilelaw12.MappingWrites', WHERE WHAT IT READS IS OF BULK AT MOST 1048576: true; the input reads as it did. -/
def mappingWritesUptoRow : OpenClaim := { program := "ytokebpeplopjhaadoor", sum := "439f6a9e1e204ab2b480c4b3a22029c1c4af9be35a0db06a09784cdb4d44e1e0", func := "campanile/campanilelaw12.MappingWrites", spec := "mappingWrites", inPlace := ["math.Float32frombits", "math.Float64frombits", "math.Float64bits"], unfollowed := true, recurses := true, named := ["campanile/types.table"], plainKeys := false, apart := false, laid := [("campanile/types.table", laid_campanile_types_table)], narrowed := true }
def MappingWritesUptoSaid : Prop := mappingWritesUptoRow.holds Tryd.pinned (OpenSpec.upto mappingWritesSpec)

/-- 'campanilelaw12.MappingNumbers', WHERE WHAT IT READS IS OF BULK AT MOST 1048576: true; the input reads as it did. -/
def mappingNumbersUptoRow : OpenClaim := { program := "ytokebpeplopjhaadoor", sum := "439f6a9e1e204ab2b480c4b3a22029c1c4af9be35a0db06a09784cdb4d44e1e0", func := "campanile/campanilelaw12.MappingNumbers", spec := "mappingNumbers", inPlace := ["math.Float32frombits", "math.Float64frombits", "math.Float64bits"], unfollowed := true, recurses := true, named := ["campanile/types.table"], plainKeys := false, apart := false, laid := [("campanile/types.table", laid_campanile_types_table)], narrowed := true }
def MappingNumbersUptoSaid : Prop := mappingNumbersUptoRow.holds Tryd.pinned (OpenSpec.upto mappingNumbersSpec)

/-- 'campanilelaw13.ProduceInhibits', WHERE WHAT IT READS IS OF BULK AT MOST 1048576: true; the input reads as it did. -/
def produceInhibitsUptoRow : OpenClaim := { program := "ytokebpeplopjhaadoor", sum := "439f6a9e1e204ab2b480c4b3a22029c1c4af9be35a0db06a09784cdb4d44e1e0", func := "campanile/campanilelaw13.ProduceInhibits", spec := "produceInhibits", inPlace := ["math.Float32frombits", "math.Float64frombits", "math.Float64bits"], unfollowed := true, recurses := true, named := ["campanile/types.table"], plainKeys := false, apart := false, laid := [("campanile/types.table", laid_campanile_types_table)], narrowed := true }
def ProduceInhibitsUptoSaid : Prop := produceInhibitsUptoRow.holds Tryd.pinned (OpenSpec.upto produceInhibitsSpec)

/-- 'campanilelaw13.ProduceBeats', WHERE WHAT IT READS IS OF BULK AT MOST 1048576: true; the input reads as it did. -/
def produceBeatsUptoRow : OpenClaim := { program := "ytokebpeplopjhaadoor", sum := "439f6a9e1e204ab2b480c4b3a22029c1c4af9be35a0db06a09784cdb4d44e1e0", func := "campanile/campanilelaw13.ProduceBeats", spec := "produceBeats", inPlace := ["math.Float32frombits", "math.Float64frombits", "math.Float64bits"], unfollowed := true, recurses := true, named := ["campanile/types.table"], plainKeys := false, apart := false, laid := [("campanile/types.table", laid_campanile_types_table)], narrowed := true }
def ProduceBeatsUptoSaid : Prop := produceBeatsUptoRow.holds Tryd.pinned (OpenSpec.upto produceBeatsSpec)

/-- 'campanilelaw14.ConsumeLate', WHERE WHAT IT READS IS OF BULK AT MOST 1048576: true; the input reads as it did. -/
def consumeLateUptoRow : OpenClaim := { program := "ytokebpeplopjhaadoor", sum := "439f6a9e1e204ab2b480c4b3a22029c1c4af9be35a0db06a09784cdb4d44e1e0", func := "campanile/campanilelaw14.ConsumeLate", spec := "consumeLate", inPlace := ["math.Float32frombits", "math.Float64frombits", "math.Float64bits"], unfollowed := true, recurses := true, named := ["campanile/types.table"], plainKeys := false, apart := false, laid := [("campanile/types.table", laid_campanile_types_table)], narrowed := true }
def ConsumeLateUptoSaid : Prop := consumeLateUptoRow.holds Tryd.pinned (OpenSpec.upto consumeLateSpec)

/-- 'campanilelaw13.ProduceKnown', WHERE WHAT IT READS IS OF BULK AT MOST 1048576: true; the input reads as it did. -/
def produceKnownUptoRow : OpenClaim := { program := "ytokebpeplopjhaadoor", sum := "439f6a9e1e204ab2b480c4b3a22029c1c4af9be35a0db06a09784cdb4d44e1e0", func := "campanile/campanilelaw13.ProduceKnown", spec := "produceKnown", inPlace := ["math.Float32frombits", "math.Float64frombits", "math.Float64bits"], unfollowed := true, recurses := true, named := ["campanile/types.table"], plainKeys := false, apart := false, laid := [("campanile/types.table", laid_campanile_types_table)], narrowed := true }
def ProduceKnownUptoSaid : Prop := produceKnownUptoRow.holds Tryd.pinned (OpenSpec.upto produceKnownSpec)

/-- 'campanilelaw14.ConsumeKnown', WHERE WHAT IT READS IS OF BULK AT MOST 1048576: true; the input reads as it did. -/
def consumeKnownUptoRow : OpenClaim := { program := "ytokebpeplopjhaadoor", sum := "439f6a9e1e204ab2b480c4b3a22029c1c4af9be35a0db06a09784cdb4d44e1e0", func := "campanile/campanilelaw14.ConsumeKnown", spec := "consumeKnown", inPlace := ["math.Float32frombits", "math.Float64frombits", "math.Float64bits"], unfollowed := true, recurses := true, named := ["campanile/types.table"], plainKeys := false, apart := false, laid := [("campanile/types.table", laid_campanile_types_table)], narrowed := true }
def ConsumeKnownUptoSaid : Prop := consumeKnownUptoRow.holds Tryd.pinned (OpenSpec.upto consumeKnownSpec)

/-- 'campanilelaw14.ConsumeFollows', WHERE WHAT IT READS IS OF BULK AT MOST 1048576: true; the input reads as it did. -/
def consumeFollowsUptoRow : OpenClaim := { program := "ytokebpeplopjhaadoor", sum := "439f6a9e1e204ab2b480c4b3a22029c1c4af9be35a0db06a09784cdb4d44e1e0", func := "campanile/campanilelaw14.ConsumeFollows", spec := "consumeFollows", inPlace := ["math.Float32frombits", "math.Float64frombits", "math.Float64bits"], unfollowed := true, recurses := true, named := ["campanile/types.table"], plainKeys := false, apart := false, laid := [("campanile/types.table", laid_campanile_types_table)], narrowed := true }
def ConsumeFollowsUptoSaid : Prop := consumeFollowsUptoRow.holds Tryd.pinned (OpenSpec.upto consumeFollowsSpec)

end Rows
end Go.Proofs.YtokebpeplopjhaaDoor
