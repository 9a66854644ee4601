/-
  No cell of these rows narrows 'for every input' (looked for: loops, veiled, ifaces, maps, wideKeys, modest, calm, conditions, laid).
  DERIVED. THE GIVEN ROWS OF THIS SEAT. 4 by the template 'for every input the law returns true; each argument reads behind the call as it read before'; 0 by the template 'total and deterministic' (their statements: YtnjmohdfnicpdaaTotals.lean).
  GIVEN WITH THE SEED: the statements are not yours to turn. If you find one false, say at which input.
  Laid BY PROGRAM, IN A SANDBOX (cutbox-rows.mjs): the forced cells as the released guide's own fill.sh prints them over the translation 751e566413a790e9… (all of the seat's roots in one cut). By AI agents, Wed Nov 11 2026. No macro, syntax, notation, axiom, sorry.
-/
import Derived.Test.YtnjmohdfnicpdaaChecked
import GoSem.Claim
import GoSem.ClaimJoined
import GoSem.ClaimMapViews
import Derived.JoinedTies
import Derived.KernelRfl
namespace Go.Proofs.Ytnjmohdfnicpdaa
/- THE CELL 'sum', in the pinned program and in every row, IS THE sha256 OF THE DUMP (.gsa) THAT YtnjmohdfnicpdaaProg.lean LOADS. Nothing in Lean hashes anything: it is a label: what it is worth is what the hold of that sum in a sandbox is worth. -/
noncomputable def Try.pinned : Pinned := { name := "ytnjmohdfnicpdaa", sum := "751e566413a790e935fd7a90cc4e87e614b62012fd42ab6a1d90ae54fb8c8c2b", checked := Try.checked }
namespace Rows
def none {H : Type} : Left H := { results := [], args := [] }

/-- 'campanilelaw04.BusOnce': WHATEVER THE INPUT: true; the input reads as it did. -/
def busOnceSpec : ChangeSpec := { name := "busOnce", fn := fun _ => fun
  | [d1, d2] => { results := [.lit (.bool true)], args := [d1, d2] }
  | _ => none }
def busOnceRow : OpenClaim := { program := "ytnjmohdfnicpdaa", sum := "751e566413a790e935fd7a90cc4e87e614b62012fd42ab6a1d90ae54fb8c8c2b", func := "campanile/campanilelaw04.BusOnce", spec := "busOnce", unfollowed := true, recurses := true, apart := false }
def BusOnceSaid : Prop := busOnceRow.holds Try.pinned (OpenSpec.ofChange busOnceSpec)

/-- ITS FALSE NEIGHBOUR: 'it returns false'. Refute it at one input. -/
def busOnceWrong : ChangeSpec := { name := "busOnce", fn := fun _ => fun
  | [d1, d2] => { results := [.lit (.bool false)], args := [d1, d2] }
  | _ => none }
def BusOnceWrongFalsely : Prop := busOnceRow.holds Try.pinned (OpenSpec.ofChange busOnceWrong)

/-- 'campanilelaw04.BusPlays': WHATEVER THE INPUT: true; the input reads as it did. -/
def busPlaysSpec : ChangeSpec := { name := "busPlays", fn := fun _ => fun
  | [d] => { results := [.lit (.bool true)], args := [d] }
  | _ => none }
def busPlaysRow : OpenClaim := { program := "ytnjmohdfnicpdaa", sum := "751e566413a790e935fd7a90cc4e87e614b62012fd42ab6a1d90ae54fb8c8c2b", func := "campanile/campanilelaw04.BusPlays", spec := "busPlays", unfollowed := true, recurses := true, apart := false }
def BusPlaysSaid : Prop := busPlaysRow.holds Try.pinned (OpenSpec.ofChange busPlaysSpec)

/-- ITS FALSE NEIGHBOUR: 'it returns false'. Refute it at one input. -/
def busPlaysWrong : ChangeSpec := { name := "busPlays", fn := fun _ => fun
  | [d] => { results := [.lit (.bool false)], args := [d] }
  | _ => none }
def BusPlaysWrongFalsely : Prop := busPlaysRow.holds Try.pinned (OpenSpec.ofChange busPlaysWrong)

/-- 'campanilelaw04.BusNone': WHATEVER THE INPUT: true; the input reads as it did. -/
def busNoneSpec : ChangeSpec := { name := "busNone", fn := fun _ => fun
  | [d1, d2] => { results := [.lit (.bool true)], args := [d1, d2] }
  | _ => none }
def busNoneRow : OpenClaim := { program := "ytnjmohdfnicpdaa", sum := "751e566413a790e935fd7a90cc4e87e614b62012fd42ab6a1d90ae54fb8c8c2b", func := "campanile/campanilelaw04.BusNone", spec := "busNone", unfollowed := true, recurses := true, apart := false }
def BusNoneSaid : Prop := busNoneRow.holds Try.pinned (OpenSpec.ofChange busNoneSpec)

/-- ITS FALSE NEIGHBOUR: 'it returns false'. Refute it at one input. -/
def busNoneWrong : ChangeSpec := { name := "busNone", fn := fun _ => fun
  | [d1, d2] => { results := [.lit (.bool false)], args := [d1, d2] }
  | _ => none }
def BusNoneWrongFalsely : Prop := busNoneRow.holds Try.pinned (OpenSpec.ofChange busNoneWrong)

/-- 'campanilelaw04.BusKnown': WHATEVER THE INPUT: true; the input reads as it did. -/
def busKnownSpec : ChangeSpec := { name := "busKnown", fn := fun _ => fun
  | [] => { results := [.lit (.bool true)], args := [] }
  | _ => none }
def busKnownRow : OpenClaim := { program := "ytnjmohdfnicpdaa", sum := "751e566413a790e935fd7a90cc4e87e614b62012fd42ab6a1d90ae54fb8c8c2b", func := "campanile/campanilelaw04.BusKnown", spec := "busKnown", unfollowed := true, recurses := true, apart := false }
def BusKnownSaid : Prop := busKnownRow.holds Try.pinned (OpenSpec.ofChange busKnownSpec)

/-- ITS FALSE NEIGHBOUR: 'it returns false'. Refute it at one input. -/
def busKnownWrong : ChangeSpec := { name := "busKnown", fn := fun _ => fun
  | [] => { results := [.lit (.bool false)], args := [] }
  | _ => none }
def BusKnownWrongFalsely : Prop := busKnownRow.holds Try.pinned (OpenSpec.ofChange busKnownWrong)

/- THE SECOND FORM. 'bulk': how many values and letters a reading holds, each counted each time it is reached (what is shared counts as often as it is met; a slice's spare places count too). A statement '..UptoSaid' is the law's where the arguments, and the package variables that the reading takes, are together of bulk at most 1048576: NARROWER than '..Said'. Prove '..Said' where nothing that the law and all that it calls make is longer than what came in: it says more and counts as full. Else prove '..UptoSaid'. A law counts once. -/
mutual
def uptoBulk {H : Type} : DataW H → Nat
  | .lit (.string bytes) => bytes.length + 1
  | .lit _ => 1
  | .nil => 1
  | .ptr d => uptoBulk d + 1
  | .slice elems spare => uptoBulkAll elems + uptoBulkAll spare + 1
  | .agg parts => uptoBulkAll parts + 1
  | .iface _ d => uptoBulk d + 1
  | .map entries => uptoBulkEntries entries + 1
  | .held _ => 1
def uptoBulkAll {H : Type} : List (DataW H) → Nat
  | [] => 0
  | d :: r => uptoBulk d + uptoBulkAll r
def uptoBulkEntries {H : Type} : List (Lit × DataW H) → Nat
  | [] => 0
  | x :: r => uptoBulkEntry x + uptoBulkEntries r
def uptoBulkEntry {H : Type} : Lit × DataW H → Nat
  | (.string bytes, d) => bytes.length + uptoBulk d + 1
  | (_, d) => uptoBulk d + 1
 end
def uptoSmall : (H : Type) → List (DataW H) → Bool := fun _ ds => decide (uptoBulkAll ds ≤ 1048576)
def OpenSpec.upto (s : _root_.Go.ChangeSpec) : _root_.Go.OpenSpec := { _root_.Go.OpenSpec.ofChange s with cond := some uptoSmall }

/-- 'campanilelaw04.BusOnce', WHERE WHAT IT READS IS OF BULK AT MOST 1048576: true; the input reads as it did. -/
def busOnceUptoRow : OpenClaim := { program := "ytnjmohdfnicpdaa", sum := "751e566413a790e935fd7a90cc4e87e614b62012fd42ab6a1d90ae54fb8c8c2b", func := "campanile/campanilelaw04.BusOnce", spec := "busOnce", unfollowed := true, recurses := true, apart := false, narrowed := true }
def BusOnceUptoSaid : Prop := busOnceUptoRow.holds Try.pinned (OpenSpec.upto busOnceSpec)

/-- 'campanilelaw04.BusPlays', WHERE WHAT IT READS IS OF BULK AT MOST 1048576: true; the input reads as it did. -/
def busPlaysUptoRow : OpenClaim := { program := "ytnjmohdfnicpdaa", sum := "751e566413a790e935fd7a90cc4e87e614b62012fd42ab6a1d90ae54fb8c8c2b", func := "campanile/campanilelaw04.BusPlays", spec := "busPlays", unfollowed := true, recurses := true, apart := false, narrowed := true }
def BusPlaysUptoSaid : Prop := busPlaysUptoRow.holds Try.pinned (OpenSpec.upto busPlaysSpec)

/-- 'campanilelaw04.BusNone', WHERE WHAT IT READS IS OF BULK AT MOST 1048576: true; the input reads as it did. -/
def busNoneUptoRow : OpenClaim := { program := "ytnjmohdfnicpdaa", sum := "751e566413a790e935fd7a90cc4e87e614b62012fd42ab6a1d90ae54fb8c8c2b", func := "campanile/campanilelaw04.BusNone", spec := "busNone", unfollowed := true, recurses := true, apart := false, narrowed := true }
def BusNoneUptoSaid : Prop := busNoneUptoRow.holds Try.pinned (OpenSpec.upto busNoneSpec)

/-- 'campanilelaw04.BusKnown', WHERE WHAT IT READS IS OF BULK AT MOST 1048576: true; the input reads as it did. -/
def busKnownUptoRow : OpenClaim := { program := "ytnjmohdfnicpdaa", sum := "751e566413a790e935fd7a90cc4e87e614b62012fd42ab6a1d90ae54fb8c8c2b", func := "campanile/campanilelaw04.BusKnown", spec := "busKnown", unfollowed := true, recurses := true, apart := false, narrowed := true }
def BusKnownUptoSaid : Prop := busKnownUptoRow.holds Try.pinned (OpenSpec.upto busKnownSpec)

end Rows
end Go.Proofs.Ytnjmohdfnicpdaa
