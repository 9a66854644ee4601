/- cmp.Or over two numbers; times in order. -/
import Derived.Test.YtcgcghldgomelaaGreatDoorTfc
namespace Go.Proofs.YtcgcghldgomelaaGreatDoor.Mp
open Go.RowKit Go.Shelf Go.Proofs.YtcgcghldgomelaaGreatDoor.Rng Go.Proofs.YtcgcghldgomelaaGreatDoorW.PrintWords Go.Proofs.YtcgcghldgomelaaGreatDoorW.PrintMore Go.Proofs.YtcgcghldgomelaaGreatDoorW.PrintLast

def or2 (p q : Int) : Int := if p ≠ 0 then p else q
set_option maxRecDepth 100000 in
set_option maxHeartbeats 1000000 in
theorem or_any (p q : Int) (g : Nat) (t : TypeId) (w : World) (hb : w.heap[g]? = some (.cells #[.int .i64 p, .int .i64 q] t (0, 0))) :
    Calls Tryz.prog 47 #[.slice (some ⟨g, 0, none⟩) 2 2] w fun e w' => e = .returned (.int .i64 (or2 p q)) ∧ w' = w := by
  have h0 := blk_cell hb 0
  have h1 := blk_cell hb 1
  simp at h0 h1
  obtain ⟨r, hr⟩ : ∃ r, or2 p q = r := ⟨_, rfl⟩
  rw [hr]
  unfold or2 at hr
  by_cases hp : p = 0
  · subst hp
    rw [if_neg (by simp)] at hr
    subst hr
    by_cases hq : q = 0
    · subst hq
      go_enter Tryz.func47, Tryz.ntmps47
      go_wp2
      go_loop [5, 8] (fun _ i => ∃ k : Nat, k ≤ 2 ∧ i = .int .i64 k) (fun _ i => 2 - (intOf i).toNat)
      case atStart => exact ⟨0, by omega, rfl⟩
      case round =>
        obtain ⟨k, hk, rfl⟩ := hrel
        match k, hk with
        | 0, _ =>
          go_wp2
          go_round
          case rel => exact ⟨1, by omega, by go_num⟩
          case measure => simp [intOf]
        | 1, _ =>
          go_wp2
          go_round
          case rel => exact ⟨2, by omega, by go_num⟩
          case measure => simp [intOf]
        | 2, _ =>
          go_wp2
          go_ret
          exact ⟨rfl, rfl⟩
    · have hq1 : (q == 0) = false := by simpa using hq
      have hq2 : (q != 0) = true := by simpa using hq
      go_enter Tryz.func47, Tryz.ntmps47
      go_wp2
      go_loop [5, 8] (fun _ i => ∃ k : Nat, k ≤ 1 ∧ i = .int .i64 k) (fun _ i => 2 - (intOf i).toNat)
      case atStart => exact ⟨0, by omega, rfl⟩
      case round =>
        obtain ⟨k, hk, rfl⟩ := hrel
        match k, hk with
        | 0, _ =>
          go_wp2
          go_round
          case rel => exact ⟨1, by omega, by go_num⟩
          case measure => simp [intOf]
        | 1, _ =>
          go_wp2
          go_ret
          exact ⟨rfl, rfl⟩
  · have hq1 : (p == 0) = false := by simpa using hp
    have hq2 : (p != 0) = true := by simpa using hp
    rw [if_pos hp] at hr
    subst hr
    go_enter Tryz.func47, Tryz.ntmps47
    go_wp2
    go_loop [5, 8] (fun _ i => i = .int .i64 ((0 : Nat) : Int)) (fun _ i => 2 - (intOf i).toNat)
    case atStart => rfl
    case round =>
      obtain rfl := hrel
      go_wp2
      go_ret
      exact ⟨rfl, rfl⟩
end Go.Proofs.YtcgcghldgomelaaGreatDoor.Mp
