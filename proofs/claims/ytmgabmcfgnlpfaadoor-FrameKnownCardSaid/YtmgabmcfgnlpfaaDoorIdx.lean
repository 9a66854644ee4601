/- strings.IndexByte, strings.CutPrefix (the shelf's contracts, laid for this seat), strings.Cut at one byte. -/
import Derived.Test.YtmgabmcfgnlpfaaDoorChecked
import Derived.Lib.Strings
import Derived.Lib.Slices
import Derived.Lib.Walk
import Derived.Lib.Bytealg
import Derived.WalkKit
import Derived.Deep.QuietTactic
import Derived.BigQuiet
import Derived.Test.YtmgabmcfgnlpfaaDoorWWords
import Derived.Test.YtmgabmcfgnlpfaaDoorWMore
import Derived.Test.YtmgabmcfgnlpfaaDoorWLast
namespace Go.Proofs.YtmgabmcfgnlpfaaDoor.Frm
open Go.RowKit Go.Proofs.YtmgabmcfgnlpfaaDoorW.PrintWords Go.Proofs.YtmgabmcfgnlpfaaDoorW.PrintMore Go.Proofs.YtmgabmcfgnlpfaaDoorW.PrintLast

set_option maxHeartbeats 1000000 in
set_option maxRecDepth 100000 in
theorem lib_IndexByte (s : ByteArray) (c : Int) (w : World) :
    Calls Tryd.prog 38 #[.string s, .int .u8 c] w fun e w' => e = .returned (.int .i64 (Lib.indexByte s.data.toList c.toNat.toUInt8)) ∧ w' = w := by
  go_enter Tryd.func38, Tryd.ntmps38
  go_wp2
  rw [run_callFunc_extern Tryd.func45 (by kernel_rfl) (by kernel_rfl) (by kernel_rfl) (e := Extern.BytealgIndexByte.indexByte) (by kernel_rfl), Lib.run_indexByteString]
  simp only [Result.andThen]
  rw [Oper.upon_value]
  go_wp2
  go_ret
  exact ⟨rfl, rfl⟩
set_option maxHeartbeats 1000000 in
theorem str_IndexByte (s : ByteArray) (c : Int) (w : World) :
    Calls Tryd.prog 33 #[.string s, .int .u8 c] w fun e w' => e = .returned (.int .i64 (Lib.indexByte s.data.toList c.toNat.toUInt8)) ∧ w' = w := by
  go_enter Tryd.func33, Tryd.ntmps33
  go_wp2_with (go_at_call 38; refine (lib_IndexByte _ _ _).mono ?_; rintro e w' ⟨rfl, rfl⟩)
  go_ret
  exact ⟨rfl, rfl⟩
/-- Where the mark # is; -1: nowhere. -/
def hash (s : ByteArray) : Int := Lib.indexByte s.data.toList 35
set_option maxHeartbeats 1000000 in
set_option maxRecDepth 100000 in
theorem index_hash (s : ByteArray) (w : World) :
    Calls Tryd.prog 37 #[.string s, .string ⟨#[35]⟩] w fun e w' => e = .returned (.int .i64 (hash s)) ∧ w' = w := by
  go_enter Tryd.func37, Tryd.ntmps37
  go_wp2_with (go_at_call 38; refine (lib_IndexByte _ _ _).mono ?_; rintro e w' ⟨rfl, rfl⟩)
  · have h : ([35] == s.toList) = true := by assumption
    have h2 : s.data.toList = [35] := by
      have := (beq_iff_eq.mp h).symm
      rwa [Lib.toList_data] at this
    go_ret
    exact ⟨by unfold hash; rw [h2]; rfl, rfl⟩
  · go_ret
    exact ⟨rfl, rfl⟩
theorem indexByte_lt (c : UInt8) : ∀ l : List UInt8, Lib.indexByte l c < l.length
  | [] => by simp [Lib.indexByte]
  | b :: l => by
    have h := indexByte_lt c l
    rw [Lib.indexByte, List.length_cons]
    split
    · omega
    · split <;> omega
theorem hash_bound (s : ByteArray) : -1 ≤ hash s ∧ hash s < s.size := by
  refine ⟨Lib.indexByte_ge _ _, ?_⟩
  rw [Lib.size_eq]
  exact indexByte_lt _ _
set_option maxHeartbeats 1000000 in
set_option maxRecDepth 100000 in
theorem lib_cut_no (s : ByteArray) (w : World) (h : hash s < 0) :
    Calls Tryd.prog 32 #[.string s, .string ⟨#[35]⟩] w fun e w' => e = .returned (.tuple #[.string s, .string ByteArray.empty, .bool false]) ∧ w' = w := by
  obtain ⟨i, hi⟩ : ∃ i, hash s = i := ⟨_, rfl⟩
  have HI := Aside0.mk hi
  rw [hi] at h
  clear hi
  go_enter Tryd.func32, Tryd.ntmps32
  go_wp2_with (go_at_call 37; refine (index_hash s w).mono ?_; rintro e w' ⟨rfl, rfl⟩; rw [HI.out])
  go_ret3
  exact ⟨rfl, rfl⟩
set_option maxHeartbeats 1000000 in
theorem cut_no (s : ByteArray) (w : World) (h : hash s < 0) :
    Calls Tryd.prog 23 #[.string s, .string ⟨#[35]⟩] w fun e w' => e = .returned (.tuple #[.string s, .string ByteArray.empty, .bool false]) ∧ w' = w := by
  go_enter Tryd.func23, Tryd.ntmps23
  go_wp2_with (go_at_call 32; refine (lib_cut_no s w h).mono ?_; rintro e w' ⟨rfl, rfl⟩)
  go_ret3
  exact ⟨rfl, rfl⟩
set_option maxHeartbeats 1000000 in
set_option maxRecDepth 100000 in
theorem lib_cut_yes (s : ByteArray) (w : World) (i : Nat) (h : hash s = i) (hs : i < s.size) (h63 : s.size ≤ 9223372036854775807) :
    Calls Tryd.prog 32 #[.string s, .string ⟨#[35]⟩] w fun e w' => e = .returned (.tuple #[.string (s.extract 0 i), .string (s.extract (i + 1) s.size), .bool true]) ∧ ∃ m, w' = w.drewN m := by
  have HI := Aside0.mk h
  clear h
  go_enter Tryd.func32, Tryd.ntmps32
  go_wp2_with (go_at_call 37; refine (index_hash s w).mono ?_; rintro e w' ⟨rfl, rfl⟩; rw [HI.out])
  repeat (go_quiet (fail); try go_wp2)
  go_ret3
  exact ⟨rfl, _, rfl⟩
set_option maxHeartbeats 1000000 in
theorem cut_yes (s : ByteArray) (w : World) (i : Nat) (h : hash s = i) (h63 : s.size ≤ 9223372036854775807) :
    Calls Tryd.prog 23 #[.string s, .string ⟨#[35]⟩] w fun e w' => e = .returned (.tuple #[.string (s.extract 0 i), .string (s.extract (i + 1) s.size), .bool true]) ∧ ∃ m, w' = w.drewN m := by
  have hs : i < s.size := by have := (hash_bound s).2; omega
  go_enter Tryd.func23, Tryd.ntmps23
  go_wp2_with (go_at_call 32; refine (lib_cut_yes s w i h hs h63).mono ?_; rintro e w' ⟨rfl, ⟨m, rfl⟩⟩)
  go_ret3
  exact ⟨rfl, m, rfl⟩
end Go.Proofs.YtmgabmcfgnlpfaaDoor.Frm
