/- types.plain: why bytes are no value. -/
import Derived.Test.YtcgcghldgomelaaGreatDoorTnum
namespace Go.Proofs.YtcgcghldgomelaaGreatDoor.Mp
open Go.RowKit Go.Shelf Go.Proofs.YtcgcghldgomelaaGreatDoor.Rng Go.Proofs.YtcgcghldgomelaaGreatDoorW.PrintWords Go.Proofs.YtcgcghldgomelaaGreatDoorW.PrintMore Go.Proofs.YtcgcghldgomelaaGreatDoor.Num

theorem _root_.Go.Proofs.YtcgcghldgomelaaGreatDoor.Rng.Rd.take {w : World} {A : Option Addr} {zs : List Int} (h : Rd w A zs) (m : Nat) : Rd w A (zs.take m) := by
  refine ⟨by have := h.1; simp; omega, fun hn => ?_⟩
  obtain ⟨ad, e, hc⟩ := h.2 (by simp at hn; omega)
  refine ⟨ad, e, fun j hj => ?_⟩
  have hj' : j < m ∧ j < zs.length := by simp at hj; omega
  rw [hc j hj'.2, List.getElem?_take, if_pos hj'.1]
set_option maxRecDepth 100000 in
set_option maxHeartbeats 2000000 in
theorem plain_any (t : Int) (ht : 0 ≤ t ∧ t < 256) (A : Option Addr) (c : Nat) (zs : List Int) (w : World) (h : Tbl w) (hz : Rd w A zs) (hb : Byt zs) (hc : zs.length ≤ c) (hcc : c ≤ 9223372036854775807) :
    Calls Tryz.prog 35 #[.int .u8 t, .slice A zs.length c] w fun e w' => e = .returned (.int .u32 (plainC t zs)) ∧ Below w.heap.size w w' := by
  obtain ⟨bm, hcell, hl⟩ := h.at_ ht
  have hsz := siz_of t
  have hkc := knd_cases t
  obtain ⟨r, hr⟩ : ∃ r, plainC t zs = r := ⟨_, rfl⟩
  have HR := hr
  unfold plainC at hr
  rw [HR]
  obtain ⟨k, hk⟩ : ∃ k, knd t = k := ⟨_, rfl⟩
  obtain ⟨s, hs⟩ : ∃ s, siz t = s := ⟨_, rfl⟩
  obtain ⟨n, hn⟩ : ∃ n, zs.length = n := ⟨_, rfl⟩
  rw [hk, hs] at hl hsz hr
  rw [hk] at hkc
  rw [hn] at hr hc ⊢
  have HZ := Aside0.mk hz
  have HY := Aside0.mk hb
  have HN := Aside0.mk hn
  clear hz hb hn h HR hk hs
  rcases hkc with rfl | hk
  · simp at hr
    subst hr
    clear hsz
    go_enter Tryz.func35, Tryz.ntmps35
    go_wp2
    go_ret
    exact ⟨rfl, below_alloc (Below.refl _ _) _⟩
  by_cases h1 : (4096 : Int) < n
  · rw [if_neg (by omega), if_pos (.inl h1)] at hr
    subst hr
    rcases hk with rfl | rfl | rfl | rfl | rfl | rfl <;> clear hsz
    all_goals
      go_enter Tryz.func35, Tryz.ntmps35
      go_wp2
      go_ret
      exact ⟨rfl, below_alloc (Below.refl _ _) _⟩
  by_cases h2 : s < n
  · have h1' : (n : Int) ≤ 4096 := by omega
    by_cases h6 : k = 6
    · subst h6
      have hs := hsz.2.2.2.2.2.1 rfl
      subst hs
      rw [if_neg (by decide), if_neg (by omega), if_neg (by omega), if_neg (by omega)] at hr
      subst hr
      clear hsz hk
      go_enter Tryz.func35, Tryz.ntmps35
      go_wp2
      go_ret
      exact ⟨rfl, below_alloc (Below.refl _ _) _⟩
    · rw [if_neg (by omega), if_pos (.inr ⟨h6, h2⟩)] at hr
      subst hr
      rcases hk with rfl | rfl | rfl | rfl | rfl | rfl <;> clear hsz
      all_goals first | exact absurd rfl h6 | skip
      all_goals
        go_enter Tryz.func35, Tryz.ntmps35
        go_wp2
        go_ret
        exact ⟨rfl, below_alloc (Below.refl _ _) _⟩
  have h1' : (n : Int) ≤ 4096 := by omega
  have h2' : (n : Int) ≤ s := by omega
  by_cases h3 : (n : Int) < s
  · rw [if_neg (by omega), if_neg (by omega), if_pos h3] at hr
    subst hr
    have h6 : k ≠ 6 := fun e => by have := hsz.2.2.2.2.2.1 e; omega
    rcases hk with rfl | rfl | rfl | rfl | rfl | rfl <;> clear hsz
    all_goals first | exact absurd rfl h6 | skip
    all_goals
      go_enter Tryz.func35, Tryz.ntmps35
      go_wp2
      go_ret
      exact ⟨rfl, below_alloc (Below.refl _ _) _⟩
  obtain rfl : s = n := by omega
  rw [if_neg (by omega), if_neg (by omega), if_neg (by omega)] at hr
  rcases hk with rfl | rfl | rfl | rfl | rfl | rfl
  · have hs := hsz.1 rfl
    obtain rfl : n = 1 := by omega
    obtain ⟨ad, rfl, hx⟩ := HZ.out.at_ 0 (by have := HN.out; omega)
    obtain ⟨x, hxe⟩ : ∃ x, zs[0]?.getD 0 = x := ⟨_, rfl⟩
    rw [hxe] at hx hr
    rw [show ad.add 0 = ad from rfl] at hx
    have hx2 : ∀ o, (w.alloc o).cell? ad = some (.int .u8 x) := fun o => ((below_alloc (Below.refl w.heap.size w) o).cell (World.block_lt_of_cell? w _ hx)).trans hx
    clear hsz hs hxe
    by_cases hx1 : 1 < x
    · rw [if_pos (.inl ⟨rfl, hx1⟩)] at hr
      subst hr
      go_enter Tryz.func35, Tryz.ntmps35
      go_wp2
      go_ret
      exact ⟨rfl, below_alloc (Below.refl _ _) _⟩
    · rw [if_neg (by omega)] at hr
      subst hr
      go_enter Tryz.func35, Tryz.ntmps35
      go_wp2
      go_ret
      exact ⟨rfl, below_alloc (Below.refl _ _) _⟩
  · rw [if_neg (by omega)] at hr
    subst hr
    clear hsz
    go_enter Tryz.func35, Tryz.ntmps35
    go_wp2
    go_ret
    exact ⟨rfl, below_alloc (Below.refl _ _) _⟩
  · rw [if_neg (by omega)] at hr
    subst hr
    clear hsz
    go_enter Tryz.func35, Tryz.ntmps35
    go_wp2
    go_ret
    exact ⟨rfl, below_alloc (Below.refl _ _) _⟩
  · rw [if_neg (by omega)] at hr
    subst hr
    clear hsz
    go_enter Tryz.func35, Tryz.ntmps35
    go_wp2
    go_ret
    exact ⟨rfl, below_alloc (Below.refl _ _) _⟩
  · have hs := hsz.2.2.2.2.1 rfl
    obtain rfl : n = 6 := by omega
    obtain ⟨y, hy⟩ : ∃ y, num (zs.take 4) = y := ⟨_, rfl⟩
    rw [hy] at hr
    have h4 : (zs.take 4).length = 4 := by have := HN.out; simp; omega
    have HNB := Aside0.mk fun W (hr : Rd W A zs) => number_any A c (zs.take 4) W (hr.take 4) (fun x hx => HY.out x (List.mem_of_mem_take hx)) (by omega)
    rw [h4, hy] at HNB
    clear hsz hs hy h4
    by_cases hx1 : 86400000 ≤ y
    · rw [if_pos (.inr ⟨rfl, hx1⟩)] at hr
      subst hr
      go_enter Tryz.func35, Tryz.ntmps35
      go_wp2_with (go_at_call 49; refine (HNB.out _ (HZ.out.below (below_alloc (Below.refl _ _) _))).mono ?_; rintro e w1 ⟨rfl, hb⟩; have HB := Aside0.mk hb; clear hb)
      go_ret
      exact ⟨rfl, (below_alloc (Below.refl _ _) _).trans (HB.out.mono (by simp))⟩
    · rw [if_neg (by omega)] at hr
      subst hr
      go_enter Tryz.func35, Tryz.ntmps35
      go_wp2_with (go_at_call 49; refine (HNB.out _ (HZ.out.below (below_alloc (Below.refl _ _) _))).mono ?_; rintro e w1 ⟨rfl, hb⟩; have HB := Aside0.mk hb; clear hb)
      go_ret
      exact ⟨rfl, (below_alloc (Below.refl _ _) _).trans (HB.out.mono (by simp))⟩
  · rw [if_neg (by omega)] at hr
    subst hr
    clear hsz
    go_enter Tryz.func35, Tryz.ntmps35
    go_wp2
    go_ret
    exact ⟨rfl, below_alloc (Below.refl _ _) _⟩
end Go.Proofs.YtcgcghldgomelaaGreatDoor.Mp
