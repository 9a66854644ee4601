/-
  No cell of these rows narrows 'for every input' (looked for: loops, veiled, ifaces, maps, wideKeys, modest, calm, conditions, laid).
  DERIVED. THE GIVEN ROWS OF THIS SEAT. 3 by the template 'for every input the law returns true; each argument reads behind the call as it read before'; 0 by the template 'total and deterministic' (their statements: YteflphhdafhapaaTotals.lean).
  GIVEN WITH THE SEED: the statements are not yours to turn. If you find one false, say at which input.
  Laid BY PROGRAM, IN A SANDBOX (cutbox-rows.mjs): the forced cells as the released guide's own fill.sh prints them over the translation df965fef40cd2de7… (all of the seat's roots in one cut). By AI agents, Wed Nov 11 2026. No macro, syntax, notation, axiom, sorry.
-/
import Derived.Test.YteflphhdafhapaaChecked
import GoSem.Claim
import GoSem.ClaimJoined
import GoSem.ClaimMapViews
import Derived.JoinedTies
import Derived.KernelRfl
namespace Go.Proofs.Yteflphhdafhapaa
/- THE CELL 'sum', in the pinned program and in every row, IS THE sha256 OF THE DUMP (.gsa) THAT YteflphhdafhapaaProg.lean LOADS. Nothing in Lean hashes anything: it is a label: what it is worth is what the hold of that sum in a sandbox is worth. -/
noncomputable def Try.pinned : Pinned := { name := "yteflphhdafhapaa", sum := "df965fef40cd2de7a1b2b86bc9941970dd659b41ec4a025d707df891de98a485", checked := Try.checked }
namespace Rows
def none {H : Type} : Left H := { results := [], args := [] }

/-- 'campanilelaw23.CompactWrites': WHATEVER THE INPUT: true; the input reads as it did. -/
def compactWritesSpec : ChangeSpec := { name := "compactWrites", fn := fun _ => fun
  | [d] => { results := [.lit (.bool true)], args := [d] }
  | _ => none }
def compactWritesRow : OpenClaim := { program := "yteflphhdafhapaa", sum := "df965fef40cd2de7a1b2b86bc9941970dd659b41ec4a025d707df891de98a485", func := "campanile/campanilelaw23.CompactWrites", spec := "compactWrites", unfollowed := true, recurses := true, apart := false }
def CompactWritesSaid : Prop := compactWritesRow.holds Try.pinned (OpenSpec.ofChange compactWritesSpec)

/-- ITS FALSE NEIGHBOUR: 'it returns false'. Refute it at one input. -/
def compactWritesWrong : ChangeSpec := { name := "compactWrites", fn := fun _ => fun
  | [d] => { results := [.lit (.bool false)], args := [d] }
  | _ => none }
def CompactWritesWrongFalsely : Prop := compactWritesRow.holds Try.pinned (OpenSpec.ofChange compactWritesWrong)

/-- 'campanilelaw23.CompactReads': WHATEVER THE INPUT: true; the input reads as it did. -/
def compactReadsSpec : ChangeSpec := { name := "compactReads", fn := fun _ => fun
  | [d] => { results := [.lit (.bool true)], args := [d] }
  | _ => none }
def compactReadsRow : OpenClaim := { program := "yteflphhdafhapaa", sum := "df965fef40cd2de7a1b2b86bc9941970dd659b41ec4a025d707df891de98a485", func := "campanile/campanilelaw23.CompactReads", spec := "compactReads", unfollowed := true, recurses := true, apart := false }
def CompactReadsSaid : Prop := compactReadsRow.holds Try.pinned (OpenSpec.ofChange compactReadsSpec)

/-- ITS FALSE NEIGHBOUR: 'it returns false'. Refute it at one input. -/
def compactReadsWrong : ChangeSpec := { name := "compactReads", fn := fun _ => fun
  | [d] => { results := [.lit (.bool false)], args := [d] }
  | _ => none }
def CompactReadsWrongFalsely : Prop := compactReadsRow.holds Try.pinned (OpenSpec.ofChange compactReadsWrong)

/-- 'campanilelaw23.CompactBack': WHATEVER THE INPUT: true; the input reads as it did. -/
def compactBackSpec : ChangeSpec := { name := "compactBack", fn := fun _ => fun
  | [d1, d2] => { results := [.lit (.bool true)], args := [d1, d2] }
  | _ => none }
def compactBackRow : OpenClaim := { program := "yteflphhdafhapaa", sum := "df965fef40cd2de7a1b2b86bc9941970dd659b41ec4a025d707df891de98a485", func := "campanile/campanilelaw23.CompactBack", spec := "compactBack", unfollowed := true, recurses := true, apart := false }
def CompactBackSaid : Prop := compactBackRow.holds Try.pinned (OpenSpec.ofChange compactBackSpec)

/-- ITS FALSE NEIGHBOUR: 'it returns false'. Refute it at one input. -/
def compactBackWrong : ChangeSpec := { name := "compactBack", fn := fun _ => fun
  | [d1, d2] => { results := [.lit (.bool false)], args := [d1, d2] }
  | _ => none }
def CompactBackWrongFalsely : Prop := compactBackRow.holds Try.pinned (OpenSpec.ofChange compactBackWrong)

/- THE SECOND FORM. 'bulk': how many values and letters a reading holds, each counted each time it is reached (what is shared counts as often as it is met; a slice's spare places count too). A statement '..UptoSaid' is the law's where the arguments, and the package variables that the reading takes, are together of bulk at most 1048576: NARROWER than '..Said'. Prove '..Said' where nothing that the law and all that it calls make is longer than what came in: it says more and counts as full. Else prove '..UptoSaid'. A law counts once. -/
mutual
def uptoBulk {H : Type} : DataW H → Nat
  | .lit (.string bytes) => bytes.length + 1
  | .lit _ => 1
  | .nil => 1
  | .ptr d => uptoBulk d + 1
  | .slice elems spare => uptoBulkAll elems + uptoBulkAll spare + 1
  | .agg parts => uptoBulkAll parts + 1
  | .iface _ d => uptoBulk d + 1
  | .map entries => uptoBulkEntries entries + 1
  | .held _ => 1
def uptoBulkAll {H : Type} : List (DataW H) → Nat
  | [] => 0
  | d :: r => uptoBulk d + uptoBulkAll r
def uptoBulkEntries {H : Type} : List (Lit × DataW H) → Nat
  | [] => 0
  | x :: r => uptoBulkEntry x + uptoBulkEntries r
def uptoBulkEntry {H : Type} : Lit × DataW H → Nat
  | (.string bytes, d) => bytes.length + uptoBulk d + 1
  | (_, d) => uptoBulk d + 1
 end
def uptoSmall : (H : Type) → List (DataW H) → Bool := fun _ ds => decide (uptoBulkAll ds ≤ 1048576)
def OpenSpec.upto (s : _root_.Go.ChangeSpec) : _root_.Go.OpenSpec := { _root_.Go.OpenSpec.ofChange s with cond := some uptoSmall }

/-- 'campanilelaw23.CompactWrites', WHERE WHAT IT READS IS OF BULK AT MOST 1048576: true; the input reads as it did. -/
def compactWritesUptoRow : OpenClaim := { program := "yteflphhdafhapaa", sum := "df965fef40cd2de7a1b2b86bc9941970dd659b41ec4a025d707df891de98a485", func := "campanile/campanilelaw23.CompactWrites", spec := "compactWrites", unfollowed := true, recurses := true, apart := false, narrowed := true }
def CompactWritesUptoSaid : Prop := compactWritesUptoRow.holds Try.pinned (OpenSpec.upto compactWritesSpec)

/-- 'campanilelaw23.CompactReads', WHERE WHAT IT READS IS OF BULK AT MOST 1048576: true; the input reads as it did. -/
def compactReadsUptoRow : OpenClaim := { program := "yteflphhdafhapaa", sum := "df965fef40cd2de7a1b2b86bc9941970dd659b41ec4a025d707df891de98a485", func := "campanile/campanilelaw23.CompactReads", spec := "compactReads", unfollowed := true, recurses := true, apart := false, narrowed := true }
def CompactReadsUptoSaid : Prop := compactReadsUptoRow.holds Try.pinned (OpenSpec.upto compactReadsSpec)

/-- 'campanilelaw23.CompactBack', WHERE WHAT IT READS IS OF BULK AT MOST 1048576: true; the input reads as it did. -/
def compactBackUptoRow : OpenClaim := { program := "yteflphhdafhapaa", sum := "df965fef40cd2de7a1b2b86bc9941970dd659b41ec4a025d707df891de98a485", func := "campanile/campanilelaw23.CompactBack", spec := "compactBack", unfollowed := true, recurses := true, apart := false, narrowed := true }
def CompactBackUptoSaid : Prop := compactBackUptoRow.holds Try.pinned (OpenSpec.upto compactBackSpec)

end Rows
end Go.Proofs.Yteflphhdafhapaa
