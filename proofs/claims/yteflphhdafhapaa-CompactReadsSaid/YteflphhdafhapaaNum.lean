/- compact.number: a number in so many bytes, the lowest first. -/
import Derived.Test.YteflphhdafhapaaKit
namespace Go.Proofs.Yteflphhdafhapaa.Rng
open Go.RowKit Go.Shelf Go.Proofs.YteflphhdafhapaaW.PrintWords Go.Proofs.YteflphhdafhapaaW.PrintMore

def dig (n : Int) (i : Nat) : Int := n / 2 ^ (8 * i) % 256
def numK (n : Int) (size k : Nat) : List Int := (List.range size).map fun i => if i < k then dig n i else 0
def numL (n : Int) (size : Nat) : List Int := (List.range size).map (dig n)
theorem numK_length (n : Int) (size k : Nat) : (numK n size k).length = size := by simp [numK]
theorem numL_length (n : Int) (size : Nat) : (numL n size).length = size := by simp [numL]
theorem numK_zero (n : Int) (size : Nat) : numK n size 0 = List.replicate size 0 := by
  apply List.ext_getElem <;> simp [numK]
theorem numK_all (n : Int) (size : Nat) : numK n size size = numL n size := by
  apply List.ext_getElem
  · simp [numK, numL]
  · intro i h1 h2
    have : i < size := by simpa [numK] using h1
    simp [numK, numL, this]
theorem numK_succ (n : Int) (size k : Nat) (_ : k < size) : (numK n size k).set k (dig n k) = numK n size (k + 1) := by
  apply List.ext_getElem
  · simp [numK]
  · intro i h1 h2
    rw [List.getElem_set]
    by_cases h : k = i
    · subst h; simp [numK]
    · have : (i < k + 1) = (i < k) := by apply propext; omega
      simp [numK, h, this]

set_option maxRecDepth 100000 in
set_option maxHeartbeats 2000000 in
theorem number_any (n : Int) (size : Nat) (w : World) (hs : size ≤ 7) (h0 : 0 < size) :
    Calls Try.prog 17 #[.int .i64 n, .int .i64 (size : Int)] w fun e w' => ∃ v0_ : Value, e = .returned v0_ ∧ Kd.R kB 5 w' w.heap.size (fun _ => True) v0_ (numL n size) ∧ Below w.heap.size w w' := by
  go_enter Try.func17, Try.ntmps17
  go_wp2_with ((with_reducible refine gate_dst (N := 8) rfl ?_); refine Kd.R_make kB (w0 := w) w.heap.size 5 rfl (N := 8) rfl 25 _ _ rfl (size : Int) rfl rfl Try.underlying25 (.int .u8 0) 1 info_u8 rfl (by decide) (by decide) 0 (ok := fun _ => True) (okp := fun _ => True) rfl (fun _ hk => hk) trivial (by omega) (by simp; omega) (Below.refl _ _) (Nat.le_refl _) ?_; intro v1 w1 hown hb hg hat; rw [Int.toNat_natCast, ← numK_zero n] at hown; have HO := Aside0.mk hown; have HB := Aside0.mk hb; clear hown hb hg hat; obtain ⟨g1, c1, rfl, hgb, hgl, hgc⟩ := Kd.R_form HO.out (by rw [numK_length]; exact h0); rw [numK_length] at HO; rw [numK_length])
  go_loopw [6, 11] (fun _ i wr => ∃ k : Nat, k ≤ size ∧ i = .int .i64 k ∧ Aside0 (Kd.R kB 5 wr w.heap.size (fun _ => True) (.slice (some ⟨g1, 0, none⟩) size c1) (numK n size k)) ∧ Aside0 (Below w.heap.size w wr)) (fun _ i _ => size - (intOf i).toNat)
  case atStart => exact ⟨0, Nat.zero_le _, rfl, HO, HB⟩
  case round =>
    clear HO HB
    obtain ⟨k, hk, rfl, HO, HB⟩ := hrel
    by_cases hlt : k < size
    · obtain ⟨hc, hf⟩ := Kd.R_celln 0 HO.out (k : Int) (by omega) (by omega)
      rw [Int.toNat_natCast] at hc hf
      have HP := Kd.R_putg HO.out (k : Int) (dig n k)
      rw [Int.toNat_natCast, numK_succ n size k hlt] at HP
      go_wp2
      exact ⟨⟨k + 1, by omega, by go_num, ⟨HP.1⟩, ⟨HB.out.setCell hgb _⟩⟩, by simp [intOf]; omega⟩
    · obtain rfl : k = size := by omega
      go_wp2
      go_ret
      exact ⟨_, rfl, by have h := HO.out; rwa [numK_all] at h, HB.out⟩
end Go.Proofs.Yteflphhdafhapaa.Rng
