/- What the cards of the types lay: the tables of numbers, the table of types. -/
import Derived.Test.YtcgcghldgomelaaGreatDoorYa
import Derived.Test.YtcgcghldgomelaaGreatDoorTbo
import Derived.Lib.LaidTab
import Derived.Stop.LaidErr
namespace Go.Proofs.YtcgcghldgomelaaGreatDoor.Mp
open Go.RowKit Go.Proofs.YtcgcghldgomelaaGreatDoor.Rng

def six : List (String × DataW Unit) := [("math/bits.deBruijn32tab", Rows.laid_math_bits_deBruijn32tab), ("math/bits.deBruijn64tab", Rows.laid_math_bits_deBruijn64tab), ("internal/strconv.uint64pow10", Rows.laid_internal_strconv_uint64pow10), ("strconv.ErrRange", Rows.laid_strconv_ErrRange), ("strconv.ErrSyntax", Rows.laid_strconv_ErrSyntax), ("campanile/types.table", Rows.laid_campanile_types_table)]
def litI : DataW Unit → Int
  | .lit (.int _ n) => n
  | _ => 0
def numsI : DataW Unit → List Int
  | .agg l => l.map litI
  | _ => []
theorem tab64 : (Rows.laid_math_bits_deBruijn64tab : DataW Unit) = Lib.tabData .u8 (numsI Rows.laid_math_bits_deBruijn64tab) := rfl
theorem tab10 : (Rows.laid_internal_strconv_uint64pow10 : DataW Unit) = Lib.tabData .u64 (numsI Rows.laid_internal_strconv_uint64pow10) := rfl
theorem g64 : Tryz.prog.globalNamed "math/bits.deBruijn64tab" = some 2 := by kernel_rfl
theorem g10 : Tryz.prog.globalNamed "internal/strconv.uint64pow10" = some 3 := by kernel_rfl
theorem t64 : (Tryz.prog.globals[2]?).map (·.type) = some 148 := by kernel_rfl
theorem t10 : (Tryz.prog.globals[3]?).map (·.type) = some 154 := by kernel_rfl
theorem plain_six (W : World) (h : laidMetH Tryz.prog six W) : laidMet Tryz.prog six W := by
  rw [MakeChecks.laidMetH_plain _ _ _ (by kernel_rfl)] at h
  exact h
theorem tabs_of_laid {W : World} (h : laidMetH Tryz.prog six W) : Tabs W := by
  have h1 := (plain_six W h).tail
  have h2 := h1.tail
  have k1 : Lib.TabIs Tryz.prog W "math/bits.deBruijn64tab" .u8 (numsI Rows.laid_math_bits_deBruijn64tab) := Lib.tabIs_of_head g64 t64 Tryz.underlying148 Tryz.underlying5 (by kernel_rfl) (by kernel_rfl) h1
  have k2 : Lib.TabIs Tryz.prog W "internal/strconv.uint64pow10" .u64 (numsI Rows.laid_internal_strconv_uint64pow10) := Lib.tabIs_of_head g10 t10 Tryz.underlying154 Tryz.underlying40 (by kernel_rfl) (by kernel_rfl) h2
  exact ⟨k2.cell g10 0 (by decide), k1.cell g64 0 (by decide), k1.cell g64 22 (by decide)⟩
theorem tbl_of_six {W : World} (h : laidMetH Tryz.prog six W) : Tbl W := by
  have h5 := (plain_six W h).tail.tail.tail.tail.tail
  refine tbl_of_laid ?_
  rw [MakeChecks.laidMetH_plain _ _ _ (by kernel_rfl)]
  exact h5
/-- The door's own heap meets the condition. -/
theorem door_six (os : Os) (args : Array Value) : laidMetH Tryz.prog six ((World.doorLaid Tryz.prog 400 os).forCall (fun _ _ => 0) ⟨#[], args, []⟩).memory :=
  laidMetH_of_parts3 (fuel := 8) (laidMet_of_run' 8 (by kernel_rfl) (by kernel_rfl)) (by kernel_rfl) (by kernel_rfl)
end Go.Proofs.YtcgcghldgomelaaGreatDoor.Mp
