/- slices.Backward over a slice of bytes: the row of values that its iterator gives. -/
import Derived.RangeFuncNested
import Derived.RangeFuncBound
import Derived.RangeFuncCalls
import Derived.RangeFuncBox
import Derived.Shelf.Abstract
import Derived.Shelf.RegionOpen
import Derived.WalkKit
import Derived.OwnWalkIn
import Derived.TacticsInMore
import Derived.LoopNIn
import Derived.LoopIn
import Derived.Lib.Hide
import Derived.Test.YtcgcghldgomelaaGreatDoorProg
import Derived.Test.YtcgcghldgomelaaGreatDoorRng
namespace Go.Proofs.YtcgcghldgomelaaGreatDoor.Rng
open Go.RowKit Go.Shelf
attribute [local go_sem] Oper.semAt_some

/-- A slice of bytes at address A reads as zs. -/
def Rd (w : World) (A : Option Addr) (zs : List Int) : Prop :=
  zs.length ≤ 9223372036854775807 ∧ (0 < zs.length → ∃ ad, A = some ad ∧ ∀ j, j < zs.length → w.cell? (ad.add j) = some (.int .u8 (zs[j]?.getD 0)))
/-- The block of a slice that is not empty is none of M. -/
def Off (M : Nat → Prop) (A : Option Addr) (n : Nat) : Prop := ∀ ad, A = some ad → 0 < n → ¬ M ad.block
theorem add_block (a : Addr) (i : Nat) : (a.add i).block = a.block := by unfold Addr.add; split <;> rfl
theorem Rd.fr {M : Nat → Prop} {w W : World} {A : Option Addr} {zs : List Int} (h : Rd w A zs) (hf : Fr M w W) (hM : Off M A zs.length) : Rd W A zs :=
  ⟨h.1, fun hn => by
    obtain ⟨ad, e, hc⟩ := h.2 hn
    exact ⟨ad, e, fun j hj => hf.cell (hc j hj) (by rw [add_block]; exact hM ad e hn)⟩⟩
theorem Rd.at_ {w : World} {A : Option Addr} {zs : List Int} (h : Rd w A zs) (j : Nat) (hj : j < zs.length) : ∃ ad, A = some ad ∧ w.cell? (ad.add j) = some (.int .u8 (zs[j]?.getD 0)) := by
  obtain ⟨ad, e, hc⟩ := h.2 (by omega)
  exact ⟨ad, e, hc j hj⟩

/-- The pairs: the last element first. -/
def backs (zs : List Int) (k : Nat) (args : Array Value) (_ : World) : Prop := args = #[.int .i64 ((zs.length - 1 - k : Nat) : Int), .int .u8 (zs[zs.length - 1 - k]?.getD 0)]

set_option maxRecDepth 100000 in
set_option maxHeartbeats 2000000 in
theorem back_seq (Bs cap : Nat) (A : Option Addr) (zs : List Int) (M : Nat → Prop) (W : World) (hBs : W.cell? ⟨Bs, 0, none⟩ = some (.slice A zs.length cap)) (hM : ¬ M Bs) (hz : Rd W A zs) (hA : Off M A zs.length) :
    SeqL Tryz.prog 109 #[.pointer (some ⟨Bs, 0, none⟩)] zs.length (backs zs) M (fun _ => False) W := by
  intro l J Jx hJ hJx hY h0
  obtain ⟨len, hlen⟩ : ∃ len, zs.length = len := ⟨_, rfl⟩
  have Hlen := Lib.hid hlen
  have HY := Lib.hid hY
  have HA := Lib.hid hA
  have Hz := Lib.hid hz
  have hle : len ≤ 9223372036854775807 := hlen ▸ hz.1
  rw [hlen] at hBs
  clear hJ hJx hY hlen hA hz
  refine callsIn_of_wp Tryz.func109 rfl trivial ?_ rfl
  simp only [Tryz.ntmps109, List.size_toArray, List.length_cons, List.length_nil, Nat.reduceAdd, Nat.reduceSub, Array.replicate_succ, Array.replicate_zero, List.push_toArray, List.append_toArray, List.nil_append, List.cons_append]
  gi_wp2
  gi_loopw [3] (fun i wr => ∃ k : Nat, k ≤ len ∧ i = .int .i64 ((len : Int) - 1 - k) ∧ J k wr ∧ Fr M W wr)
    (fun i _ => (intOf i + 1).toNat)
  case atStart => exact ⟨0, Nat.zero_le _, by simp, h0, Fr.refl _ _⟩
  case round =>
    obtain ⟨k, hk, rfl, hJs, hfr⟩ := hrel
    have hc := hfr.cell hBs hM
    by_cases hlt : k < len
    · obtain ⟨ad, hA0, hcell⟩ := (Hz.out.fr hfr HA.out).at_ (len - 1 - k) (by have := Hlen.out; omega)
      subst hA0
      obtain ⟨fn, tmps, assign, body, hy, hR⟩ := HY.out k _ wr (by have := Hlen.out; omega) rfl hJs
      rw [Hlen.out] at hy
      obtain ⟨m, hm⟩ : ∃ m : Nat, len - 1 - k = m := ⟨_, rfl⟩
      have hm2 : (len : Int) - 1 - k = m := by omega
      have hml : m < len := by omega
      rw [hm] at hy hcell
      rw [hm2]
      have hkm : k + m + 1 = len := by omega
      have HKM := Lib.hid hkm
      clear hm hm2 hlt hk hkm
      gi_wp2
      refine (RoundIn.wide_any hR).mono ?_
      rintro e W3 (⟨rfl, hJ3, hk3⟩ | ⟨rfl, hJx3, hk3⟩)
      · gi_wp2
        go_roundw
        case rel => exact ⟨k + 1, by have := HKM.out; omega, by have := HKM.out; congr 1; omega, hJ3, hfr.trans hk3⟩
        case measure => simp [intOf]
      · gi_wp2
        refine bodyPost_ret (results_none rfl _ _ _) rfl ?_
        exact ⟨⟨_, rfl⟩, .inr ⟨k, by rw [Hlen.out]; have := HKM.out; omega, hJx3⟩⟩
    · obtain rfl : k = len := by omega
      rw [show ((k : Int) - 1 - k) = -1 by omega]
      gi_wp2
      go_end0
      exact ⟨⟨_, rfl⟩, .inl (by rw [Hlen.out]; exact hJs)⟩

end Go.Proofs.YtcgcghldgomelaaGreatDoor.Rng
