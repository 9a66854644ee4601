/-
  NARROWER THAN 'FOR EVERY INPUT', by the rows' own cells (each row's printed sentence says how): TypesCheck: laid · TypesCompare: laid · TypesTexts: laid · TypesValues: laid · TypesBack: laid · TypesOrder: laid · TypesBounds: laid · TypesWhole: laid · TypesFloats: laid · TypesKnown: laid · TypesSizes: laid.
  DERIVED. THE GIVEN ROWS OF THIS SEAT. 11 by the template 'for every input the law returns true; each argument reads behind the call as it read before'; 0 by the template 'total and deterministic' (their statements: YtcgcghldgomelaaGreatDoorTotals.lean).
  GIVEN WITH THE SEED: the statements are not yours to turn. If you find one false, say at which input.
  Laid BY PROGRAM, IN A SANDBOX (cutbox-rows.mjs): the forced cells as the released guide's own fill.sh prints them over the translation 674bf140142dfe41… (all of the seat's roots in one cut). By AI agents, Wed Nov 11 2026. No macro, syntax, notation, axiom, sorry.
-/
import Derived.Test.YtcgcghldgomelaaGreatDoorChecked
import GoSem.Claim
import GoSem.ClaimJoined
import GoSem.ClaimMapViews
import Derived.JoinedTies
import Derived.KernelRfl
namespace Go.Proofs.YtcgcghldgomelaaGreatDoor
/- THE CELL 'sum', in the pinned program and in every row, IS THE sha256 OF THE DUMP (.gsa) THAT YtcgcghldgomelaaGreatDoorProg.lean LOADS. Nothing in Lean hashes anything: it is a label: what it is worth is what the hold of that sum in a sandbox is worth. -/
noncomputable def Tryz.pinned : Pinned := { name := "ytcgcghldgomelaagreatdoor", sum := "674bf140142dfe4110d692335c07fae7f9d7c835798a679bf9428246029b5588", checked := Tryz.checked }
namespace Rows
def none {H : Type} : Left H := { results := [], args := [] }

/- WHAT THE LISTED PACKAGE-LEVEL VARIABLES READ AS WHEN THE CALL BEGINS. Each datum BY PROGRAM (the guide's laid-datum.mjs) off the statement by which the dump's own 'gosem.cut.vars' lays the variable. In a bare row this is a premise. The card (YtcgcghldgomelaaGreatDoorCards.lean) ties it to the program's text. -/
def laid_math_bits_deBruijn32tab {H : Type} : DataW H := .agg [.lit (.int .u8 0), .lit (.int .u8 1), .lit (.int .u8 28), .lit (.int .u8 2), .lit (.int .u8 29), .lit (.int .u8 14), .lit (.int .u8 24), .lit (.int .u8 3), .lit (.int .u8 30), .lit (.int .u8 22), .lit (.int .u8 20), .lit (.int .u8 15), .lit (.int .u8 25), .lit (.int .u8 17), .lit (.int .u8 4), .lit (.int .u8 8), .lit (.int .u8 31), .lit (.int .u8 27), .lit (.int .u8 13), .lit (.int .u8 23), .lit (.int .u8 21), .lit (.int .u8 19), .lit (.int .u8 16), .lit (.int .u8 7), .lit (.int .u8 26), .lit (.int .u8 12), .lit (.int .u8 18), .lit (.int .u8 6), .lit (.int .u8 11), .lit (.int .u8 5), .lit (.int .u8 10), .lit (.int .u8 9)]
def laid_math_bits_deBruijn64tab {H : Type} : DataW H := .agg [.lit (.int .u8 0), .lit (.int .u8 1), .lit (.int .u8 56), .lit (.int .u8 2), .lit (.int .u8 57), .lit (.int .u8 49), .lit (.int .u8 28), .lit (.int .u8 3), .lit (.int .u8 61), .lit (.int .u8 58), .lit (.int .u8 42), .lit (.int .u8 50), .lit (.int .u8 38), .lit (.int .u8 29), .lit (.int .u8 17), .lit (.int .u8 4), .lit (.int .u8 62), .lit (.int .u8 47), .lit (.int .u8 59), .lit (.int .u8 36), .lit (.int .u8 45), .lit (.int .u8 43), .lit (.int .u8 51), .lit (.int .u8 22), .lit (.int .u8 53), .lit (.int .u8 39), .lit (.int .u8 33), .lit (.int .u8 30), .lit (.int .u8 24), .lit (.int .u8 18), .lit (.int .u8 12), .lit (.int .u8 5), .lit (.int .u8 63), .lit (.int .u8 55), .lit (.int .u8 48), .lit (.int .u8 27), .lit (.int .u8 60), .lit (.int .u8 41), .lit (.int .u8 37), .lit (.int .u8 16), .lit (.int .u8 46), .lit (.int .u8 35), .lit (.int .u8 44), .lit (.int .u8 21), .lit (.int .u8 52), .lit (.int .u8 32), .lit (.int .u8 23), .lit (.int .u8 11), .lit (.int .u8 54), .lit (.int .u8 26), .lit (.int .u8 40), .lit (.int .u8 15), .lit (.int .u8 34), .lit (.int .u8 20), .lit (.int .u8 31), .lit (.int .u8 10), .lit (.int .u8 25), .lit (.int .u8 14), .lit (.int .u8 19), .lit (.int .u8 9), .lit (.int .u8 13), .lit (.int .u8 8), .lit (.int .u8 7), .lit (.int .u8 6)]
def laid_internal_strconv_uint64pow10 {H : Type} : DataW H := .agg [.lit (.int .u64 1), .lit (.int .u64 10), .lit (.int .u64 100), .lit (.int .u64 1000), .lit (.int .u64 10000), .lit (.int .u64 100000), .lit (.int .u64 1000000), .lit (.int .u64 10000000), .lit (.int .u64 100000000), .lit (.int .u64 1000000000), .lit (.int .u64 10000000000), .lit (.int .u64 100000000000), .lit (.int .u64 1000000000000), .lit (.int .u64 10000000000000), .lit (.int .u64 100000000000000), .lit (.int .u64 1000000000000000), .lit (.int .u64 10000000000000000), .lit (.int .u64 100000000000000000), .lit (.int .u64 1000000000000000000), .lit (.int .u64 10000000000000000000)]
def laid_strconv_ErrRange {H : Type} : DataW H := .iface "*errors.errorString" (.ptr (.agg [.lit (.string [118, 97, 108, 117, 101, 32, 111, 117, 116, 32, 111, 102, 32, 114, 97, 110, 103, 101])]))
def laid_strconv_ErrSyntax {H : Type} : DataW H := .iface "*errors.errorString" (.ptr (.agg [.lit (.string [105, 110, 118, 97, 108, 105, 100, 32, 115, 121, 110, 116, 97, 120])]))
def laid_campanile_types_table {H : Type} : DataW H := .map [(.int .u8 1, .agg [.lit (.int .u8 1), .lit (.int .i64 1)]), (.int .u8 2, .agg [.lit (.int .u8 2), .lit (.int .i64 1)]), (.int .u8 3, .agg [.lit (.int .u8 2), .lit (.int .i64 2)]), (.int .u8 4, .agg [.lit (.int .u8 2), .lit (.int .i64 4)]), (.int .u8 5, .agg [.lit (.int .u8 3), .lit (.int .i64 1)]), (.int .u8 6, .agg [.lit (.int .u8 3), .lit (.int .i64 2)]), (.int .u8 7, .agg [.lit (.int .u8 3), .lit (.int .i64 4)]), (.int .u8 8, .agg [.lit (.int .u8 4), .lit (.int .i64 4)]), (.int .u8 9, .agg [.lit (.int .u8 6), .lit (.int .i64 0)]), (.int .u8 10, .agg [.lit (.int .u8 6), .lit (.int .i64 0)]), (.int .u8 12, .agg [.lit (.int .u8 5), .lit (.int .i64 6)]), (.int .u8 13, .agg [.lit (.int .u8 5), .lit (.int .i64 6)]), (.int .u8 15, .agg [.lit (.int .u8 6), .lit (.int .i64 0)]), (.int .u8 16, .agg [.lit (.int .u8 2), .lit (.int .i64 3)]), (.int .u8 17, .agg [.lit (.int .u8 4), .lit (.int .i64 8)]), (.int .u8 21, .agg [.lit (.int .u8 2), .lit (.int .i64 8)]), (.int .u8 22, .agg [.lit (.int .u8 3), .lit (.int .i64 3)]), (.int .u8 27, .agg [.lit (.int .u8 3), .lit (.int .i64 8)])]

/-- 'campanilelaw01.TypesCheck': WHATEVER THE INPUT: true; the input reads as it did. -/
def typesCheckSpec : ChangeSpec := { name := "typesCheck", fn := fun _ => fun
  | [d1, d2, d3, d4] => { results := [.lit (.bool true)], args := [d1, d2, d3, d4] }
  | _ => none }
def typesCheckRow : OpenClaim := { program := "ytcgcghldgomelaagreatdoor", sum := "674bf140142dfe4110d692335c07fae7f9d7c835798a679bf9428246029b5588", func := "campanile/campanilelaw01.TypesCheck", spec := "typesCheck", inPlace := ["internal/abi.NoEscape", "internal/bytealg.MakeNoZero", "math.Float32frombits", "math.Float64frombits", "math.Float64bits", "internal/bytealg.IndexByteString", "internal/bytealg.IndexString", "math.Float32bits"], unfollowed := true, recurses := true, named := ["campanile/types.table", "internal/strconv.uint64pow10", "math/bits.deBruijn32tab", "math/bits.deBruijn64tab", "strconv.ErrSyntax", "strconv.ErrRange", "internal/bytealg.MaxLen"], apart := false, laid := [("math/bits.deBruijn32tab", laid_math_bits_deBruijn32tab), ("math/bits.deBruijn64tab", laid_math_bits_deBruijn64tab), ("internal/strconv.uint64pow10", laid_internal_strconv_uint64pow10), ("strconv.ErrRange", laid_strconv_ErrRange), ("strconv.ErrSyntax", laid_strconv_ErrSyntax), ("campanile/types.table", laid_campanile_types_table)] }
def TypesCheckSaid : Prop := typesCheckRow.holds Tryz.pinned (OpenSpec.ofChange typesCheckSpec)

/-- ITS FALSE NEIGHBOUR: 'it returns false'. Refute it at one input. -/
def typesCheckWrong : ChangeSpec := { name := "typesCheck", fn := fun _ => fun
  | [d1, d2, d3, d4] => { results := [.lit (.bool false)], args := [d1, d2, d3, d4] }
  | _ => none }
def TypesCheckWrongFalsely : Prop := typesCheckRow.holds Tryz.pinned (OpenSpec.ofChange typesCheckWrong)

/-- 'campanilelaw01.TypesCompare': WHATEVER THE INPUT: true; the input reads as it did. -/
def typesCompareSpec : ChangeSpec := { name := "typesCompare", fn := fun _ => fun
  | [d1, d2, d3] => { results := [.lit (.bool true)], args := [d1, d2, d3] }
  | _ => none }
def typesCompareRow : OpenClaim := { program := "ytcgcghldgomelaagreatdoor", sum := "674bf140142dfe4110d692335c07fae7f9d7c835798a679bf9428246029b5588", func := "campanile/campanilelaw01.TypesCompare", spec := "typesCompare", inPlace := ["internal/abi.NoEscape", "internal/bytealg.MakeNoZero", "math.Float32frombits", "math.Float64frombits", "math.Float64bits", "internal/bytealg.IndexByteString", "internal/bytealg.IndexString", "math.Float32bits"], unfollowed := true, recurses := true, named := ["campanile/types.table", "internal/strconv.uint64pow10", "math/bits.deBruijn32tab", "math/bits.deBruijn64tab", "strconv.ErrSyntax", "strconv.ErrRange", "internal/bytealg.MaxLen"], apart := false, laid := [("math/bits.deBruijn32tab", laid_math_bits_deBruijn32tab), ("math/bits.deBruijn64tab", laid_math_bits_deBruijn64tab), ("internal/strconv.uint64pow10", laid_internal_strconv_uint64pow10), ("strconv.ErrRange", laid_strconv_ErrRange), ("strconv.ErrSyntax", laid_strconv_ErrSyntax), ("campanile/types.table", laid_campanile_types_table)] }
def TypesCompareSaid : Prop := typesCompareRow.holds Tryz.pinned (OpenSpec.ofChange typesCompareSpec)

/-- ITS FALSE NEIGHBOUR: 'it returns false'. Refute it at one input. -/
def typesCompareWrong : ChangeSpec := { name := "typesCompare", fn := fun _ => fun
  | [d1, d2, d3] => { results := [.lit (.bool false)], args := [d1, d2, d3] }
  | _ => none }
def TypesCompareWrongFalsely : Prop := typesCompareRow.holds Tryz.pinned (OpenSpec.ofChange typesCompareWrong)

/-- 'campanilelaw01.TypesTexts': WHATEVER THE INPUT: true; the input reads as it did. -/
def typesTextsSpec : ChangeSpec := { name := "typesTexts", fn := fun _ => fun
  | [d1, d2] => { results := [.lit (.bool true)], args := [d1, d2] }
  | _ => none }
def typesTextsRow : OpenClaim := { program := "ytcgcghldgomelaagreatdoor", sum := "674bf140142dfe4110d692335c07fae7f9d7c835798a679bf9428246029b5588", func := "campanile/campanilelaw01.TypesTexts", spec := "typesTexts", inPlace := ["internal/abi.NoEscape", "internal/bytealg.MakeNoZero", "math.Float32frombits", "math.Float64frombits", "math.Float64bits", "internal/bytealg.IndexByteString", "internal/bytealg.IndexString", "math.Float32bits"], unfollowed := true, recurses := true, named := ["campanile/types.table", "internal/strconv.uint64pow10", "math/bits.deBruijn32tab", "math/bits.deBruijn64tab", "strconv.ErrSyntax", "strconv.ErrRange", "internal/bytealg.MaxLen"], apart := false, laid := [("math/bits.deBruijn32tab", laid_math_bits_deBruijn32tab), ("math/bits.deBruijn64tab", laid_math_bits_deBruijn64tab), ("internal/strconv.uint64pow10", laid_internal_strconv_uint64pow10), ("strconv.ErrRange", laid_strconv_ErrRange), ("strconv.ErrSyntax", laid_strconv_ErrSyntax), ("campanile/types.table", laid_campanile_types_table)] }
def TypesTextsSaid : Prop := typesTextsRow.holds Tryz.pinned (OpenSpec.ofChange typesTextsSpec)

/-- ITS FALSE NEIGHBOUR: 'it returns false'. Refute it at one input. -/
def typesTextsWrong : ChangeSpec := { name := "typesTexts", fn := fun _ => fun
  | [d1, d2] => { results := [.lit (.bool false)], args := [d1, d2] }
  | _ => none }
def TypesTextsWrongFalsely : Prop := typesTextsRow.holds Tryz.pinned (OpenSpec.ofChange typesTextsWrong)

/-- 'campanilelaw01.TypesValues': WHATEVER THE INPUT: true; the input reads as it did. -/
def typesValuesSpec : ChangeSpec := { name := "typesValues", fn := fun _ => fun
  | [d1, d2] => { results := [.lit (.bool true)], args := [d1, d2] }
  | _ => none }
def typesValuesRow : OpenClaim := { program := "ytcgcghldgomelaagreatdoor", sum := "674bf140142dfe4110d692335c07fae7f9d7c835798a679bf9428246029b5588", func := "campanile/campanilelaw01.TypesValues", spec := "typesValues", inPlace := ["internal/abi.NoEscape", "internal/bytealg.MakeNoZero", "math.Float32frombits", "math.Float64frombits", "math.Float64bits", "internal/bytealg.IndexByteString", "internal/bytealg.IndexString", "math.Float32bits"], unfollowed := true, recurses := true, named := ["campanile/types.table", "internal/strconv.uint64pow10", "math/bits.deBruijn32tab", "math/bits.deBruijn64tab", "strconv.ErrSyntax", "strconv.ErrRange", "internal/bytealg.MaxLen"], apart := false, laid := [("math/bits.deBruijn32tab", laid_math_bits_deBruijn32tab), ("math/bits.deBruijn64tab", laid_math_bits_deBruijn64tab), ("internal/strconv.uint64pow10", laid_internal_strconv_uint64pow10), ("strconv.ErrRange", laid_strconv_ErrRange), ("strconv.ErrSyntax", laid_strconv_ErrSyntax), ("campanile/types.table", laid_campanile_types_table)] }
def TypesValuesSaid : Prop := typesValuesRow.holds Tryz.pinned (OpenSpec.ofChange typesValuesSpec)

/-- ITS FALSE NEIGHBOUR: 'it returns false'. Refute it at one input. -/
def typesValuesWrong : ChangeSpec := { name := "typesValues", fn := fun _ => fun
  | [d1, d2] => { results := [.lit (.bool false)], args := [d1, d2] }
  | _ => none }
def TypesValuesWrongFalsely : Prop := typesValuesRow.holds Tryz.pinned (OpenSpec.ofChange typesValuesWrong)

/-- 'campanilelaw01.TypesBack': WHATEVER THE INPUT: true; the input reads as it did. -/
def typesBackSpec : ChangeSpec := { name := "typesBack", fn := fun _ => fun
  | [d1, d2, d3] => { results := [.lit (.bool true)], args := [d1, d2, d3] }
  | _ => none }
def typesBackRow : OpenClaim := { program := "ytcgcghldgomelaagreatdoor", sum := "674bf140142dfe4110d692335c07fae7f9d7c835798a679bf9428246029b5588", func := "campanile/campanilelaw01.TypesBack", spec := "typesBack", inPlace := ["internal/abi.NoEscape", "internal/bytealg.MakeNoZero", "math.Float32frombits", "math.Float64frombits", "math.Float64bits", "internal/bytealg.IndexByteString", "internal/bytealg.IndexString", "math.Float32bits"], unfollowed := true, recurses := true, named := ["campanile/types.table", "internal/strconv.uint64pow10", "math/bits.deBruijn32tab", "math/bits.deBruijn64tab", "strconv.ErrSyntax", "strconv.ErrRange", "internal/bytealg.MaxLen"], apart := false, laid := [("math/bits.deBruijn32tab", laid_math_bits_deBruijn32tab), ("math/bits.deBruijn64tab", laid_math_bits_deBruijn64tab), ("internal/strconv.uint64pow10", laid_internal_strconv_uint64pow10), ("strconv.ErrRange", laid_strconv_ErrRange), ("strconv.ErrSyntax", laid_strconv_ErrSyntax), ("campanile/types.table", laid_campanile_types_table)] }
def TypesBackSaid : Prop := typesBackRow.holds Tryz.pinned (OpenSpec.ofChange typesBackSpec)

/-- ITS FALSE NEIGHBOUR: 'it returns false'. Refute it at one input. -/
def typesBackWrong : ChangeSpec := { name := "typesBack", fn := fun _ => fun
  | [d1, d2, d3] => { results := [.lit (.bool false)], args := [d1, d2, d3] }
  | _ => none }
def TypesBackWrongFalsely : Prop := typesBackRow.holds Tryz.pinned (OpenSpec.ofChange typesBackWrong)

/-- 'campanilelaw01.TypesOrder': WHATEVER THE INPUT: true; the input reads as it did. -/
def typesOrderSpec : ChangeSpec := { name := "typesOrder", fn := fun _ => fun
  | [d1, d2, d3, d4] => { results := [.lit (.bool true)], args := [d1, d2, d3, d4] }
  | _ => none }
def typesOrderRow : OpenClaim := { program := "ytcgcghldgomelaagreatdoor", sum := "674bf140142dfe4110d692335c07fae7f9d7c835798a679bf9428246029b5588", func := "campanile/campanilelaw01.TypesOrder", spec := "typesOrder", inPlace := ["internal/abi.NoEscape", "internal/bytealg.MakeNoZero", "math.Float32frombits", "math.Float64frombits", "math.Float64bits", "internal/bytealg.IndexByteString", "internal/bytealg.IndexString", "math.Float32bits"], unfollowed := true, recurses := true, named := ["campanile/types.table", "internal/strconv.uint64pow10", "math/bits.deBruijn32tab", "math/bits.deBruijn64tab", "strconv.ErrSyntax", "strconv.ErrRange", "internal/bytealg.MaxLen"], apart := false, laid := [("math/bits.deBruijn32tab", laid_math_bits_deBruijn32tab), ("math/bits.deBruijn64tab", laid_math_bits_deBruijn64tab), ("internal/strconv.uint64pow10", laid_internal_strconv_uint64pow10), ("strconv.ErrRange", laid_strconv_ErrRange), ("strconv.ErrSyntax", laid_strconv_ErrSyntax), ("campanile/types.table", laid_campanile_types_table)] }
def TypesOrderSaid : Prop := typesOrderRow.holds Tryz.pinned (OpenSpec.ofChange typesOrderSpec)

/-- ITS FALSE NEIGHBOUR: 'it returns false'. Refute it at one input. -/
def typesOrderWrong : ChangeSpec := { name := "typesOrder", fn := fun _ => fun
  | [d1, d2, d3, d4] => { results := [.lit (.bool false)], args := [d1, d2, d3, d4] }
  | _ => none }
def TypesOrderWrongFalsely : Prop := typesOrderRow.holds Tryz.pinned (OpenSpec.ofChange typesOrderWrong)

/-- 'campanilelaw01.TypesBounds': WHATEVER THE INPUT: true; the input reads as it did. -/
def typesBoundsSpec : ChangeSpec := { name := "typesBounds", fn := fun _ => fun
  | [d1, d2, d3, d4] => { results := [.lit (.bool true)], args := [d1, d2, d3, d4] }
  | _ => none }
def typesBoundsRow : OpenClaim := { program := "ytcgcghldgomelaagreatdoor", sum := "674bf140142dfe4110d692335c07fae7f9d7c835798a679bf9428246029b5588", func := "campanile/campanilelaw01.TypesBounds", spec := "typesBounds", inPlace := ["internal/abi.NoEscape", "internal/bytealg.MakeNoZero", "math.Float32frombits", "math.Float64frombits", "math.Float64bits", "internal/bytealg.IndexByteString", "internal/bytealg.IndexString", "math.Float32bits"], unfollowed := true, recurses := true, named := ["campanile/types.table", "internal/strconv.uint64pow10", "math/bits.deBruijn32tab", "math/bits.deBruijn64tab", "strconv.ErrSyntax", "strconv.ErrRange", "internal/bytealg.MaxLen"], apart := false, laid := [("math/bits.deBruijn32tab", laid_math_bits_deBruijn32tab), ("math/bits.deBruijn64tab", laid_math_bits_deBruijn64tab), ("internal/strconv.uint64pow10", laid_internal_strconv_uint64pow10), ("strconv.ErrRange", laid_strconv_ErrRange), ("strconv.ErrSyntax", laid_strconv_ErrSyntax), ("campanile/types.table", laid_campanile_types_table)] }
def TypesBoundsSaid : Prop := typesBoundsRow.holds Tryz.pinned (OpenSpec.ofChange typesBoundsSpec)

/-- ITS FALSE NEIGHBOUR: 'it returns false'. Refute it at one input. -/
def typesBoundsWrong : ChangeSpec := { name := "typesBounds", fn := fun _ => fun
  | [d1, d2, d3, d4] => { results := [.lit (.bool false)], args := [d1, d2, d3, d4] }
  | _ => none }
def TypesBoundsWrongFalsely : Prop := typesBoundsRow.holds Tryz.pinned (OpenSpec.ofChange typesBoundsWrong)

/-- 'campanilelaw01.TypesWhole': WHATEVER THE INPUT: true; the input reads as it did. -/
def typesWholeSpec : ChangeSpec := { name := "typesWhole", fn := fun _ => fun
  | [d1, d2] => { results := [.lit (.bool true)], args := [d1, d2] }
  | _ => none }
def typesWholeRow : OpenClaim := { program := "ytcgcghldgomelaagreatdoor", sum := "674bf140142dfe4110d692335c07fae7f9d7c835798a679bf9428246029b5588", func := "campanile/campanilelaw01.TypesWhole", spec := "typesWhole", inPlace := ["internal/abi.NoEscape", "internal/bytealg.MakeNoZero", "math.Float32frombits", "math.Float64frombits", "math.Float64bits", "internal/bytealg.IndexByteString", "internal/bytealg.IndexString", "math.Float32bits"], unfollowed := true, recurses := true, named := ["campanile/types.table", "internal/strconv.uint64pow10", "math/bits.deBruijn32tab", "math/bits.deBruijn64tab", "strconv.ErrSyntax", "strconv.ErrRange", "internal/bytealg.MaxLen"], apart := false, laid := [("math/bits.deBruijn32tab", laid_math_bits_deBruijn32tab), ("math/bits.deBruijn64tab", laid_math_bits_deBruijn64tab), ("internal/strconv.uint64pow10", laid_internal_strconv_uint64pow10), ("strconv.ErrRange", laid_strconv_ErrRange), ("strconv.ErrSyntax", laid_strconv_ErrSyntax), ("campanile/types.table", laid_campanile_types_table)] }
def TypesWholeSaid : Prop := typesWholeRow.holds Tryz.pinned (OpenSpec.ofChange typesWholeSpec)

/-- ITS FALSE NEIGHBOUR: 'it returns false'. Refute it at one input. -/
def typesWholeWrong : ChangeSpec := { name := "typesWhole", fn := fun _ => fun
  | [d1, d2] => { results := [.lit (.bool false)], args := [d1, d2] }
  | _ => none }
def TypesWholeWrongFalsely : Prop := typesWholeRow.holds Tryz.pinned (OpenSpec.ofChange typesWholeWrong)

/-- 'campanilelaw01.TypesFloats': WHATEVER THE INPUT: true; the input reads as it did. -/
def typesFloatsSpec : ChangeSpec := { name := "typesFloats", fn := fun _ => fun
  | [d1, d2] => { results := [.lit (.bool true)], args := [d1, d2] }
  | _ => none }
def typesFloatsRow : OpenClaim := { program := "ytcgcghldgomelaagreatdoor", sum := "674bf140142dfe4110d692335c07fae7f9d7c835798a679bf9428246029b5588", func := "campanile/campanilelaw01.TypesFloats", spec := "typesFloats", inPlace := ["internal/abi.NoEscape", "internal/bytealg.MakeNoZero", "math.Float32frombits", "math.Float64frombits", "math.Float64bits", "internal/bytealg.IndexByteString", "internal/bytealg.IndexString", "math.Float32bits"], unfollowed := true, recurses := true, named := ["campanile/types.table", "internal/strconv.uint64pow10", "math/bits.deBruijn32tab", "math/bits.deBruijn64tab", "strconv.ErrSyntax", "strconv.ErrRange", "internal/bytealg.MaxLen"], apart := false, laid := [("math/bits.deBruijn32tab", laid_math_bits_deBruijn32tab), ("math/bits.deBruijn64tab", laid_math_bits_deBruijn64tab), ("internal/strconv.uint64pow10", laid_internal_strconv_uint64pow10), ("strconv.ErrRange", laid_strconv_ErrRange), ("strconv.ErrSyntax", laid_strconv_ErrSyntax), ("campanile/types.table", laid_campanile_types_table)] }
def TypesFloatsSaid : Prop := typesFloatsRow.holds Tryz.pinned (OpenSpec.ofChange typesFloatsSpec)

/-- ITS FALSE NEIGHBOUR: 'it returns false'. Refute it at one input. -/
def typesFloatsWrong : ChangeSpec := { name := "typesFloats", fn := fun _ => fun
  | [d1, d2] => { results := [.lit (.bool false)], args := [d1, d2] }
  | _ => none }
def TypesFloatsWrongFalsely : Prop := typesFloatsRow.holds Tryz.pinned (OpenSpec.ofChange typesFloatsWrong)

/-- 'campanilelaw01.TypesKnown': WHATEVER THE INPUT: true; the input reads as it did. -/
def typesKnownSpec : ChangeSpec := { name := "typesKnown", fn := fun _ => fun
  | [] => { results := [.lit (.bool true)], args := [] }
  | _ => none }
def typesKnownRow : OpenClaim := { program := "ytcgcghldgomelaagreatdoor", sum := "674bf140142dfe4110d692335c07fae7f9d7c835798a679bf9428246029b5588", func := "campanile/campanilelaw01.TypesKnown", spec := "typesKnown", inPlace := ["internal/abi.NoEscape", "internal/bytealg.MakeNoZero", "math.Float32frombits", "math.Float64frombits", "math.Float64bits", "internal/bytealg.IndexByteString", "internal/bytealg.IndexString", "math.Float32bits"], unfollowed := true, recurses := true, named := ["campanile/types.table", "internal/strconv.uint64pow10", "math/bits.deBruijn32tab", "math/bits.deBruijn64tab", "strconv.ErrSyntax", "strconv.ErrRange", "internal/bytealg.MaxLen"], apart := false, laid := [("math/bits.deBruijn32tab", laid_math_bits_deBruijn32tab), ("math/bits.deBruijn64tab", laid_math_bits_deBruijn64tab), ("internal/strconv.uint64pow10", laid_internal_strconv_uint64pow10), ("strconv.ErrRange", laid_strconv_ErrRange), ("strconv.ErrSyntax", laid_strconv_ErrSyntax), ("campanile/types.table", laid_campanile_types_table)] }
def TypesKnownSaid : Prop := typesKnownRow.holds Tryz.pinned (OpenSpec.ofChange typesKnownSpec)

/-- ITS FALSE NEIGHBOUR: 'it returns false'. Refute it at one input. -/
def typesKnownWrong : ChangeSpec := { name := "typesKnown", fn := fun _ => fun
  | [] => { results := [.lit (.bool false)], args := [] }
  | _ => none }
def TypesKnownWrongFalsely : Prop := typesKnownRow.holds Tryz.pinned (OpenSpec.ofChange typesKnownWrong)

/-- 'campanilelaw01.TypesSizes': WHATEVER THE INPUT: true; the input reads as it did. -/
def typesSizesSpec : ChangeSpec := { name := "typesSizes", fn := fun _ => fun
  | [d] => { results := [.lit (.bool true)], args := [d] }
  | _ => none }
def typesSizesRow : OpenClaim := { program := "ytcgcghldgomelaagreatdoor", sum := "674bf140142dfe4110d692335c07fae7f9d7c835798a679bf9428246029b5588", func := "campanile/campanilelaw01.TypesSizes", spec := "typesSizes", inPlace := ["math.Float32frombits", "math.Float64frombits", "math.Float64bits", "internal/abi.NoEscape", "internal/bytealg.MakeNoZero", "internal/bytealg.IndexByteString", "internal/bytealg.IndexString", "math.Float32bits"], unfollowed := true, recurses := true, named := ["campanile/types.table", "internal/strconv.uint64pow10", "math/bits.deBruijn32tab", "math/bits.deBruijn64tab", "strconv.ErrSyntax", "strconv.ErrRange", "internal/bytealg.MaxLen"], apart := false, laid := [("math/bits.deBruijn32tab", laid_math_bits_deBruijn32tab), ("math/bits.deBruijn64tab", laid_math_bits_deBruijn64tab), ("internal/strconv.uint64pow10", laid_internal_strconv_uint64pow10), ("strconv.ErrRange", laid_strconv_ErrRange), ("strconv.ErrSyntax", laid_strconv_ErrSyntax), ("campanile/types.table", laid_campanile_types_table)] }
def TypesSizesSaid : Prop := typesSizesRow.holds Tryz.pinned (OpenSpec.ofChange typesSizesSpec)

/-- ITS FALSE NEIGHBOUR: 'it returns false'. Refute it at one input. -/
def typesSizesWrong : ChangeSpec := { name := "typesSizes", fn := fun _ => fun
  | [d] => { results := [.lit (.bool false)], args := [d] }
  | _ => none }
def TypesSizesWrongFalsely : Prop := typesSizesRow.holds Tryz.pinned (OpenSpec.ofChange typesSizesWrong)

/- THE SECOND FORM. 'bulk': how many values and letters a reading holds, each counted each time it is reached (what is shared counts as often as it is met; a slice's spare places count too). A statement '..UptoSaid' is the law's where the arguments, and the package variables that the reading takes, are together of bulk at most 1048576: NARROWER than '..Said'. Prove '..Said' where nothing that the law and all that it calls make is longer than what came in: it says more and counts as full. Else prove '..UptoSaid'. A law counts once. -/
mutual
def uptoBulk {H : Type} : DataW H → Nat
  | .lit (.string bytes) => bytes.length + 1
  | .lit _ => 1
  | .nil => 1
  | .ptr d => uptoBulk d + 1
  | .slice elems spare => uptoBulkAll elems + uptoBulkAll spare + 1
  | .agg parts => uptoBulkAll parts + 1
  | .iface _ d => uptoBulk d + 1
  | .map entries => uptoBulkEntries entries + 1
  | .held _ => 1
def uptoBulkAll {H : Type} : List (DataW H) → Nat
  | [] => 0
  | d :: r => uptoBulk d + uptoBulkAll r
def uptoBulkEntries {H : Type} : List (Lit × DataW H) → Nat
  | [] => 0
  | x :: r => uptoBulkEntry x + uptoBulkEntries r
def uptoBulkEntry {H : Type} : Lit × DataW H → Nat
  | (.string bytes, d) => bytes.length + uptoBulk d + 1
  | (_, d) => uptoBulk d + 1
 end
def uptoSmall : (H : Type) → List (DataW H) → Bool := fun _ ds => decide (uptoBulkAll ds ≤ 1048576)
def OpenSpec.upto (s : _root_.Go.ChangeSpec) : _root_.Go.OpenSpec := { _root_.Go.OpenSpec.ofChange s with cond := some uptoSmall }

/-- 'campanilelaw01.TypesCheck', WHERE WHAT IT READS IS OF BULK AT MOST 1048576: true; the input reads as it did. -/
def typesCheckUptoRow : OpenClaim := { program := "ytcgcghldgomelaagreatdoor", sum := "674bf140142dfe4110d692335c07fae7f9d7c835798a679bf9428246029b5588", func := "campanile/campanilelaw01.TypesCheck", spec := "typesCheck", inPlace := ["internal/abi.NoEscape", "internal/bytealg.MakeNoZero", "math.Float32frombits", "math.Float64frombits", "math.Float64bits", "internal/bytealg.IndexByteString", "internal/bytealg.IndexString", "math.Float32bits"], unfollowed := true, recurses := true, named := ["campanile/types.table", "internal/strconv.uint64pow10", "math/bits.deBruijn32tab", "math/bits.deBruijn64tab", "strconv.ErrSyntax", "strconv.ErrRange", "internal/bytealg.MaxLen"], apart := false, laid := [("math/bits.deBruijn32tab", laid_math_bits_deBruijn32tab), ("math/bits.deBruijn64tab", laid_math_bits_deBruijn64tab), ("internal/strconv.uint64pow10", laid_internal_strconv_uint64pow10), ("strconv.ErrRange", laid_strconv_ErrRange), ("strconv.ErrSyntax", laid_strconv_ErrSyntax), ("campanile/types.table", laid_campanile_types_table)], narrowed := true }
def TypesCheckUptoSaid : Prop := typesCheckUptoRow.holds Tryz.pinned (OpenSpec.upto typesCheckSpec)

/-- 'campanilelaw01.TypesCompare', WHERE WHAT IT READS IS OF BULK AT MOST 1048576: true; the input reads as it did. -/
def typesCompareUptoRow : OpenClaim := { program := "ytcgcghldgomelaagreatdoor", sum := "674bf140142dfe4110d692335c07fae7f9d7c835798a679bf9428246029b5588", func := "campanile/campanilelaw01.TypesCompare", spec := "typesCompare", inPlace := ["internal/abi.NoEscape", "internal/bytealg.MakeNoZero", "math.Float32frombits", "math.Float64frombits", "math.Float64bits", "internal/bytealg.IndexByteString", "internal/bytealg.IndexString", "math.Float32bits"], unfollowed := true, recurses := true, named := ["campanile/types.table", "internal/strconv.uint64pow10", "math/bits.deBruijn32tab", "math/bits.deBruijn64tab", "strconv.ErrSyntax", "strconv.ErrRange", "internal/bytealg.MaxLen"], apart := false, laid := [("math/bits.deBruijn32tab", laid_math_bits_deBruijn32tab), ("math/bits.deBruijn64tab", laid_math_bits_deBruijn64tab), ("internal/strconv.uint64pow10", laid_internal_strconv_uint64pow10), ("strconv.ErrRange", laid_strconv_ErrRange), ("strconv.ErrSyntax", laid_strconv_ErrSyntax), ("campanile/types.table", laid_campanile_types_table)], narrowed := true }
def TypesCompareUptoSaid : Prop := typesCompareUptoRow.holds Tryz.pinned (OpenSpec.upto typesCompareSpec)

/-- 'campanilelaw01.TypesTexts', WHERE WHAT IT READS IS OF BULK AT MOST 1048576: true; the input reads as it did. -/
def typesTextsUptoRow : OpenClaim := { program := "ytcgcghldgomelaagreatdoor", sum := "674bf140142dfe4110d692335c07fae7f9d7c835798a679bf9428246029b5588", func := "campanile/campanilelaw01.TypesTexts", spec := "typesTexts", inPlace := ["internal/abi.NoEscape", "internal/bytealg.MakeNoZero", "math.Float32frombits", "math.Float64frombits", "math.Float64bits", "internal/bytealg.IndexByteString", "internal/bytealg.IndexString", "math.Float32bits"], unfollowed := true, recurses := true, named := ["campanile/types.table", "internal/strconv.uint64pow10", "math/bits.deBruijn32tab", "math/bits.deBruijn64tab", "strconv.ErrSyntax", "strconv.ErrRange", "internal/bytealg.MaxLen"], apart := false, laid := [("math/bits.deBruijn32tab", laid_math_bits_deBruijn32tab), ("math/bits.deBruijn64tab", laid_math_bits_deBruijn64tab), ("internal/strconv.uint64pow10", laid_internal_strconv_uint64pow10), ("strconv.ErrRange", laid_strconv_ErrRange), ("strconv.ErrSyntax", laid_strconv_ErrSyntax), ("campanile/types.table", laid_campanile_types_table)], narrowed := true }
def TypesTextsUptoSaid : Prop := typesTextsUptoRow.holds Tryz.pinned (OpenSpec.upto typesTextsSpec)

/-- 'campanilelaw01.TypesValues', WHERE WHAT IT READS IS OF BULK AT MOST 1048576: true; the input reads as it did. -/
def typesValuesUptoRow : OpenClaim := { program := "ytcgcghldgomelaagreatdoor", sum := "674bf140142dfe4110d692335c07fae7f9d7c835798a679bf9428246029b5588", func := "campanile/campanilelaw01.TypesValues", spec := "typesValues", inPlace := ["internal/abi.NoEscape", "internal/bytealg.MakeNoZero", "math.Float32frombits", "math.Float64frombits", "math.Float64bits", "internal/bytealg.IndexByteString", "internal/bytealg.IndexString", "math.Float32bits"], unfollowed := true, recurses := true, named := ["campanile/types.table", "internal/strconv.uint64pow10", "math/bits.deBruijn32tab", "math/bits.deBruijn64tab", "strconv.ErrSyntax", "strconv.ErrRange", "internal/bytealg.MaxLen"], apart := false, laid := [("math/bits.deBruijn32tab", laid_math_bits_deBruijn32tab), ("math/bits.deBruijn64tab", laid_math_bits_deBruijn64tab), ("internal/strconv.uint64pow10", laid_internal_strconv_uint64pow10), ("strconv.ErrRange", laid_strconv_ErrRange), ("strconv.ErrSyntax", laid_strconv_ErrSyntax), ("campanile/types.table", laid_campanile_types_table)], narrowed := true }
def TypesValuesUptoSaid : Prop := typesValuesUptoRow.holds Tryz.pinned (OpenSpec.upto typesValuesSpec)

/-- 'campanilelaw01.TypesBack', WHERE WHAT IT READS IS OF BULK AT MOST 1048576: true; the input reads as it did. -/
def typesBackUptoRow : OpenClaim := { program := "ytcgcghldgomelaagreatdoor", sum := "674bf140142dfe4110d692335c07fae7f9d7c835798a679bf9428246029b5588", func := "campanile/campanilelaw01.TypesBack", spec := "typesBack", inPlace := ["internal/abi.NoEscape", "internal/bytealg.MakeNoZero", "math.Float32frombits", "math.Float64frombits", "math.Float64bits", "internal/bytealg.IndexByteString", "internal/bytealg.IndexString", "math.Float32bits"], unfollowed := true, recurses := true, named := ["campanile/types.table", "internal/strconv.uint64pow10", "math/bits.deBruijn32tab", "math/bits.deBruijn64tab", "strconv.ErrSyntax", "strconv.ErrRange", "internal/bytealg.MaxLen"], apart := false, laid := [("math/bits.deBruijn32tab", laid_math_bits_deBruijn32tab), ("math/bits.deBruijn64tab", laid_math_bits_deBruijn64tab), ("internal/strconv.uint64pow10", laid_internal_strconv_uint64pow10), ("strconv.ErrRange", laid_strconv_ErrRange), ("strconv.ErrSyntax", laid_strconv_ErrSyntax), ("campanile/types.table", laid_campanile_types_table)], narrowed := true }
def TypesBackUptoSaid : Prop := typesBackUptoRow.holds Tryz.pinned (OpenSpec.upto typesBackSpec)

/-- 'campanilelaw01.TypesOrder', WHERE WHAT IT READS IS OF BULK AT MOST 1048576: true; the input reads as it did. -/
def typesOrderUptoRow : OpenClaim := { program := "ytcgcghldgomelaagreatdoor", sum := "674bf140142dfe4110d692335c07fae7f9d7c835798a679bf9428246029b5588", func := "campanile/campanilelaw01.TypesOrder", spec := "typesOrder", inPlace := ["internal/abi.NoEscape", "internal/bytealg.MakeNoZero", "math.Float32frombits", "math.Float64frombits", "math.Float64bits", "internal/bytealg.IndexByteString", "internal/bytealg.IndexString", "math.Float32bits"], unfollowed := true, recurses := true, named := ["campanile/types.table", "internal/strconv.uint64pow10", "math/bits.deBruijn32tab", "math/bits.deBruijn64tab", "strconv.ErrSyntax", "strconv.ErrRange", "internal/bytealg.MaxLen"], apart := false, laid := [("math/bits.deBruijn32tab", laid_math_bits_deBruijn32tab), ("math/bits.deBruijn64tab", laid_math_bits_deBruijn64tab), ("internal/strconv.uint64pow10", laid_internal_strconv_uint64pow10), ("strconv.ErrRange", laid_strconv_ErrRange), ("strconv.ErrSyntax", laid_strconv_ErrSyntax), ("campanile/types.table", laid_campanile_types_table)], narrowed := true }
def TypesOrderUptoSaid : Prop := typesOrderUptoRow.holds Tryz.pinned (OpenSpec.upto typesOrderSpec)

/-- 'campanilelaw01.TypesBounds', WHERE WHAT IT READS IS OF BULK AT MOST 1048576: true; the input reads as it did. -/
def typesBoundsUptoRow : OpenClaim := { program := "ytcgcghldgomelaagreatdoor", sum := "674bf140142dfe4110d692335c07fae7f9d7c835798a679bf9428246029b5588", func := "campanile/campanilelaw01.TypesBounds", spec := "typesBounds", inPlace := ["internal/abi.NoEscape", "internal/bytealg.MakeNoZero", "math.Float32frombits", "math.Float64frombits", "math.Float64bits", "internal/bytealg.IndexByteString", "internal/bytealg.IndexString", "math.Float32bits"], unfollowed := true, recurses := true, named := ["campanile/types.table", "internal/strconv.uint64pow10", "math/bits.deBruijn32tab", "math/bits.deBruijn64tab", "strconv.ErrSyntax", "strconv.ErrRange", "internal/bytealg.MaxLen"], apart := false, laid := [("math/bits.deBruijn32tab", laid_math_bits_deBruijn32tab), ("math/bits.deBruijn64tab", laid_math_bits_deBruijn64tab), ("internal/strconv.uint64pow10", laid_internal_strconv_uint64pow10), ("strconv.ErrRange", laid_strconv_ErrRange), ("strconv.ErrSyntax", laid_strconv_ErrSyntax), ("campanile/types.table", laid_campanile_types_table)], narrowed := true }
def TypesBoundsUptoSaid : Prop := typesBoundsUptoRow.holds Tryz.pinned (OpenSpec.upto typesBoundsSpec)

/-- 'campanilelaw01.TypesWhole', WHERE WHAT IT READS IS OF BULK AT MOST 1048576: true; the input reads as it did. -/
def typesWholeUptoRow : OpenClaim := { program := "ytcgcghldgomelaagreatdoor", sum := "674bf140142dfe4110d692335c07fae7f9d7c835798a679bf9428246029b5588", func := "campanile/campanilelaw01.TypesWhole", spec := "typesWhole", inPlace := ["internal/abi.NoEscape", "internal/bytealg.MakeNoZero", "math.Float32frombits", "math.Float64frombits", "math.Float64bits", "internal/bytealg.IndexByteString", "internal/bytealg.IndexString", "math.Float32bits"], unfollowed := true, recurses := true, named := ["campanile/types.table", "internal/strconv.uint64pow10", "math/bits.deBruijn32tab", "math/bits.deBruijn64tab", "strconv.ErrSyntax", "strconv.ErrRange", "internal/bytealg.MaxLen"], apart := false, laid := [("math/bits.deBruijn32tab", laid_math_bits_deBruijn32tab), ("math/bits.deBruijn64tab", laid_math_bits_deBruijn64tab), ("internal/strconv.uint64pow10", laid_internal_strconv_uint64pow10), ("strconv.ErrRange", laid_strconv_ErrRange), ("strconv.ErrSyntax", laid_strconv_ErrSyntax), ("campanile/types.table", laid_campanile_types_table)], narrowed := true }
def TypesWholeUptoSaid : Prop := typesWholeUptoRow.holds Tryz.pinned (OpenSpec.upto typesWholeSpec)

/-- 'campanilelaw01.TypesFloats', WHERE WHAT IT READS IS OF BULK AT MOST 1048576: true; the input reads as it did. -/
def typesFloatsUptoRow : OpenClaim := { program := "ytcgcghldgomelaagreatdoor", sum := "674bf140142dfe4110d692335c07fae7f9d7c835798a679bf9428246029b5588", func := "campanile/campanilelaw01.TypesFloats", spec := "typesFloats", inPlace := ["internal/abi.NoEscape", "internal/bytealg.MakeNoZero", "math.Float32frombits", "math.Float64frombits", "math.Float64bits", "internal/bytealg.IndexByteString", "internal/bytealg.IndexString", "math.Float32bits"], unfollowed := true, recurses := true, named := ["campanile/types.table", "internal/strconv.uint64pow10", "math/bits.deBruijn32tab", "math/bits.deBruijn64tab", "strconv.ErrSyntax", "strconv.ErrRange", "internal/bytealg.MaxLen"], apart := false, laid := [("math/bits.deBruijn32tab", laid_math_bits_deBruijn32tab), ("math/bits.deBruijn64tab", laid_math_bits_deBruijn64tab), ("internal/strconv.uint64pow10", laid_internal_strconv_uint64pow10), ("strconv.ErrRange", laid_strconv_ErrRange), ("strconv.ErrSyntax", laid_strconv_ErrSyntax), ("campanile/types.table", laid_campanile_types_table)], narrowed := true }
def TypesFloatsUptoSaid : Prop := typesFloatsUptoRow.holds Tryz.pinned (OpenSpec.upto typesFloatsSpec)

/-- 'campanilelaw01.TypesKnown', WHERE WHAT IT READS IS OF BULK AT MOST 1048576: true; the input reads as it did. -/
def typesKnownUptoRow : OpenClaim := { program := "ytcgcghldgomelaagreatdoor", sum := "674bf140142dfe4110d692335c07fae7f9d7c835798a679bf9428246029b5588", func := "campanile/campanilelaw01.TypesKnown", spec := "typesKnown", inPlace := ["internal/abi.NoEscape", "internal/bytealg.MakeNoZero", "math.Float32frombits", "math.Float64frombits", "math.Float64bits", "internal/bytealg.IndexByteString", "internal/bytealg.IndexString", "math.Float32bits"], unfollowed := true, recurses := true, named := ["campanile/types.table", "internal/strconv.uint64pow10", "math/bits.deBruijn32tab", "math/bits.deBruijn64tab", "strconv.ErrSyntax", "strconv.ErrRange", "internal/bytealg.MaxLen"], apart := false, laid := [("math/bits.deBruijn32tab", laid_math_bits_deBruijn32tab), ("math/bits.deBruijn64tab", laid_math_bits_deBruijn64tab), ("internal/strconv.uint64pow10", laid_internal_strconv_uint64pow10), ("strconv.ErrRange", laid_strconv_ErrRange), ("strconv.ErrSyntax", laid_strconv_ErrSyntax), ("campanile/types.table", laid_campanile_types_table)], narrowed := true }
def TypesKnownUptoSaid : Prop := typesKnownUptoRow.holds Tryz.pinned (OpenSpec.upto typesKnownSpec)

/-- 'campanilelaw01.TypesSizes', WHERE WHAT IT READS IS OF BULK AT MOST 1048576: true; the input reads as it did. -/
def typesSizesUptoRow : OpenClaim := { program := "ytcgcghldgomelaagreatdoor", sum := "674bf140142dfe4110d692335c07fae7f9d7c835798a679bf9428246029b5588", func := "campanile/campanilelaw01.TypesSizes", spec := "typesSizes", inPlace := ["math.Float32frombits", "math.Float64frombits", "math.Float64bits", "internal/abi.NoEscape", "internal/bytealg.MakeNoZero", "internal/bytealg.IndexByteString", "internal/bytealg.IndexString", "math.Float32bits"], unfollowed := true, recurses := true, named := ["campanile/types.table", "internal/strconv.uint64pow10", "math/bits.deBruijn32tab", "math/bits.deBruijn64tab", "strconv.ErrSyntax", "strconv.ErrRange", "internal/bytealg.MaxLen"], apart := false, laid := [("math/bits.deBruijn32tab", laid_math_bits_deBruijn32tab), ("math/bits.deBruijn64tab", laid_math_bits_deBruijn64tab), ("internal/strconv.uint64pow10", laid_internal_strconv_uint64pow10), ("strconv.ErrRange", laid_strconv_ErrRange), ("strconv.ErrSyntax", laid_strconv_ErrSyntax), ("campanile/types.table", laid_campanile_types_table)], narrowed := true }
def TypesSizesUptoSaid : Prop := typesSizesUptoRow.holds Tryz.pinned (OpenSpec.upto typesSizesSpec)

end Rows
end Go.Proofs.YtcgcghldgomelaaGreatDoor
