/- Closed facts of the program that all cards ask, each a declaration of its own (in one they want more memory than there is). -/
import Derived.Test.YtcgcghldgomelaaGreatDoorRows
import Derived.Test.YtcgcghldgomelaaGreatDoorProg
import Derived.WalkKit
import Derived.ProofKit
import Derived.JoinedOf
import Derived.KernelRfl
namespace Go.Proofs.YtcgcghldgomelaaGreatDoor.Mp
open Go
theorem cf_laid : laidOutB Tryz.prog = true := by kernel_rfl
theorem cf_maps : mapsRowed Tryz.prog = true := by kernel_rfl
theorem cf_keys : (Rows.typesCheckRow.plainKeys == Tryz.prog.plainKeys) = true := by kernel_rfl
theorem cf_heard : Tryz.prog.stopsHeard = true := by kernel_rfl
theorem cf_enter : Tryz.prog.mayEnter = true := by kernel_rfl
theorem cf_lift : (Rows.typesCheckRow.lifted == Tryz.prog.liftsFinal) = true := by kernel_rfl
theorem cf_make : (Tryz.prog.make == some Rows.typesCheckRow.make) = true := by kernel_rfl
theorem and_i {a b : Bool} (h : a = true) (g : b = true) : (a && b) = true := by rw [h, g]; rfl
end Go.Proofs.YtcgcghldgomelaaGreatDoor.Mp
