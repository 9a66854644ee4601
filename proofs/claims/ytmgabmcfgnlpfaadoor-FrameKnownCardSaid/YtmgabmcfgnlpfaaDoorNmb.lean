/- frame.number: a number in digits to the base 16. -/
import Derived.Test.YtmgabmcfgnlpfaaDoorIdx
namespace Go.Proofs.YtmgabmcfgnlpfaaDoor.Frm
open Go.RowKit Go.Proofs.YtmgabmcfgnlpfaaDoorW.PrintWords Go.Proofs.YtmgabmcfgnlpfaaDoorW.PrintMore Go.Proofs.YtmgabmcfgnlpfaaDoorW.PrintLast

def digL : List UInt8 := [48, 49, 50, 51, 52, 53, 54, 55, 56, 57, 65, 66, 67, 68, 69, 70]
/-- A digit's value; -1: it is none. -/
def hexV (b : UInt8) : Int := Lib.indexByte digL b
def stepN (n : Int) (b : UInt8) : Int := bits .or .u64 (IntKind.u64.wrap (n * 16)) (IntKind.u64.wrap (hexV b))
def numU (l : List UInt8) : Int := l.foldl stepN 0
def isHex (b : UInt8) : Prop := 0 ≤ hexV b
theorem dig_index (b : UInt8) (w : World) :
    Calls Tryd.prog 33 #[.string ⟨#[48, 49, 50, 51, 52, 53, 54, 55, 56, 57, 65, 66, 67, 68, 69, 70]⟩, .int .u8 (b.toNat : Int)] w fun e w' => e = .returned (.int .i64 (hexV b)) ∧ w' = w := by
  refine (str_IndexByte _ _ _).mono ?_
  rintro e w' ⟨rfl, rfl⟩
  refine ⟨?_, rfl⟩
  show Ending.returned (.int .i64 (Lib.indexByte digL ((b.toNat : Int).toNat.toUInt8))) = _
  rw [Int.toNat_natCast]
  simp [hexV]
set_option maxHeartbeats 1000000 in
set_option maxRecDepth 100000 in
theorem number_any (s : ByteArray) (w : World) (h63 : s.size ≤ 9223372036854775807) :
    Calls Tryd.prog 24 #[.string s] w fun e w' => w' = w ∧
      (((∃ j, j < s.size ∧ ¬ isHex (s.data.toList[j]?.getD 0)) ∧ e = .returned (.tuple #[.int .u64 0, .bool false])) ∨ ((∀ j, j < s.size → isHex (s.data.toList[j]?.getD 0)) ∧ e = .returned (.tuple #[.int .u64 (numU s.data.toList), .bool true]))) := by
  obtain ⟨n, hn⟩ : ∃ n, s.size = n := ⟨_, rfl⟩
  have HN := Aside0.mk hn
  rw [hn] at h63
  go_enter Tryd.func24, Tryd.ntmps24
  go_wp2
  go_loopw [4, 9] (fun x i wr => ∃ k : Nat, k ≤ n ∧ x = .int .u64 (numU (s.data.toList.take k)) ∧ i = .int .i64 k ∧ wr = w ∧ Aside0 (∀ j, j < k → isHex (s.data.toList[j]?.getD 0))) (fun _ i _ => n - (intOf i).toNat)
  case atStart => exact ⟨0, Nat.zero_le _, rfl, rfl, rfl, ⟨fun j hj => by omega⟩⟩
  case round =>
    obtain ⟨k, hk, rfl, rfl, rfl, HG⟩ := hrel
    by_cases hlt : k < n
    · have hks : k < s.size := by omega
      have hget : s[k] = s.data.toList[k]?.getD 0 := by
        rw [List.getElem?_eq_getElem (by rw [← Lib.size_eq]; exact hks)]
        rfl
      obtain ⟨b, hb⟩ : ∃ b, s[k] = b := ⟨_, rfl⟩
      obtain ⟨x, hx⟩ : ∃ x, numU (s.data.toList.take k) = x := ⟨_, rfl⟩
      rw [hx]
      have hstep : numU (s.data.toList.take (k + 1)) = stepN x b := by
        rw [List.take_add_one, List.getElem?_eq_getElem (by rw [← Lib.size_eq]; exact hks), ← hx, ← hb]
        unfold numU
        rw [List.foldl_append]
        rfl
      have HB := Aside0.mk (hget.symm.trans hb)
      have HST := Aside0.mk hstep
      clear hget hx hstep
      by_cases hv : hexV b < 0
      · go_wp2_with (go_at_call 33; refine (dig_index b _).mono ?_; rintro e w' ⟨rfl, rfl⟩)
        go_ret2
        exact ⟨rfl, .inl ⟨⟨k, by rw [HN.out]; exact hlt, by rw [HB.out]; unfold isHex; omega⟩, rfl⟩⟩
      · go_wp2_with (go_at_call 33; refine (dig_index b _).mono ?_; rintro e w' ⟨rfl, rfl⟩)
        refine ⟨⟨k + 1, by omega, by rw [HST.out]; rfl, by go_num, trivial, ⟨fun j hj => ?_⟩⟩, by simp [intOf]; omega⟩
        rcases Nat.lt_or_eq_of_le (Nat.le_of_lt_succ hj) with h | rfl
        · exact HG.out j h
        · rw [HB.out]; unfold isHex; omega
    · obtain rfl : k = n := by omega
      go_wp2
      go_ret2
      exact ⟨rfl, .inr ⟨by rw [HN.out]; exact HG.out, by rw [List.take_of_length_le (by rw [← Lib.size_eq]; omega)]; rfl⟩⟩
end Go.Proofs.YtmgabmcfgnlpfaaDoor.Frm
