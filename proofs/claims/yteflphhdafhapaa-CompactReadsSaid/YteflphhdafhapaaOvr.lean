/- over: it writes over bytes that lie in blocks of their own. -/
import Derived.Test.YteflphhdafhapaaLw3
import Derived.Test.YteflphhdafhapaaSam
import Derived.Deep.RegionHeld3
namespace Go.Proofs.Yteflphhdafhapaa.Rng
open Go.RowKit Go.Shelf Go.Proofs.YteflphhdafhapaaW.PrintWords Go.Proofs.YteflphhdafhapaaW.PrintMore Go.Proofs.YteflphhdafhapaaW.PrintLast

def lenAt (l : List Sg) (i : Nat) : Nat := (l[i]?.getD zSg).2.length
/-- Settings in block g whose bytes lie elsewhere, at or beyond base. -/
def Ov (base g : Nat) (l : List Sg) (W : World) : Prop := ∀ i, i < l.length → ∃ A c, W.cell? ⟨g, i * 3 + 2, none⟩ = some (.slice A (lenAt l i) c) ∧
  (0 < lenAt l i → ∃ g2, A = some ⟨g2, 0, none⟩ ∧ base ≤ g2 ∧ g2 ≠ g ∧ ∀ j, j < lenAt l i → (∃ x, W.cell? ⟨g2, j, none⟩ = some (.int .u8 x)) ∧ W.frozen? ⟨g2, j, none⟩ = false)
theorem Ov.of_R {W : World} {base g n cap : Nat} {l : List Sg} (h : Kd.R kS 45 W base (fun _ => True) (.slice (some ⟨g, 0, none⟩) n cap) l) (hn : l.length = n) : Ov base g l W := by
  intro i hi
  obtain ⟨c, _, hM, hc, _⟩ := Kd.R_elem h zSg (i : Int) (by omega) (by omega)
  rw [Int.toNat_natCast, List.getD_eq_getElem?_getD] at hM
  rw [Int.toNat_natCast] at hc
  obtain ⟨_, _, rfl, ⟨_, _, rfl, rfl, rfl⟩, ⟨v2, rfl, hR⟩⟩ := hM
  have hcell := hc 2 v2 rfl
  obtain ⟨A, c2, rfl, _, _⟩ := Kd.R_reads hR
  refine ⟨A, c2, hcell, fun hp => ?_⟩
  obtain ⟨g2, cap2, he, hb, _, _⟩ := Kd.R_form hR hp
  injection he with he1 _ _
  subst he1
  refine ⟨g2, rfl, hb, (hR.1 g2 rfl).2, fun j hj => ?_⟩
  obtain ⟨h1, h2⟩ := Kd.R_celln 0 hR (j : Int) (by omega) (by unfold lenAt at hj; omega)
  rw [Int.toNat_natCast] at h1 h2
  exact ⟨⟨_, h1⟩, h2⟩
theorem Ov.drew {base g : Nat} {l : List Sg} {W : World} (h : Ov base g l W) : Ov base g l W.drew := h
theorem Ov.set {base g : Nat} {l : List Sg} {W : World} (h : Ov base g l W) (p : Addr) (y : Int) (hp : p.block ≠ g) : Ov base g l (W.setCell p (.int .u8 y)) := by
  intro i hi
  obtain ⟨A, c, h1, h2⟩ := h i hi
  refine ⟨A, c, by rw [World.cell?_setCell_other _ _ _ _ (fun e => hp (by rw [e]))]; exact h1, fun hl => ?_⟩
  obtain ⟨g2, e1, e2, e3, e4⟩ := h2 hl
  refine ⟨g2, e1, e2, e3, fun j hj => ?_⟩
  obtain ⟨⟨x, hx⟩, hf⟩ := e4 j hj
  refine ⟨?_, by rw [World.frozen?_setCell]; exact hf⟩
  by_cases he : p = ⟨g2, j, none⟩
  · subst he
    exact ⟨y, World.cell?_setCell_same _ _ _ hx⟩
  · exact ⟨x, by rw [World.cell?_setCell_other _ _ _ _ he]; exact hx⟩

set_option maxRecDepth 100000 in
set_option maxHeartbeats 4000000 in
theorem over_some (base g n c : Nat) (l : List Sg) (w : World) (hO : Ov base g l w) (hn : l.length = n) (hl : n ≤ 1000000) (hls : ∀ i, i < n → lenAt l i ≤ 1000000) :
    Calls Try.prog 14 #[.slice (some ⟨g, 0, none⟩) n c] w fun e w' => e = .returned (.tuple #[]) ∧ Below base w w' := by
  have HO := Aside0.mk hO
  have HLS := Aside0.mk hls
  have HN := Aside0.mk hn
  clear hO hls hn
  go_enter Try.func14, Try.ntmps14
  go_wp2
  go_loopw [2] (fun i wr => ∃ k : Nat, k ≤ n ∧ i = .int .i64 k ∧ Aside0 (Ov base g l wr) ∧ Aside0 (Below base w wr)) (fun i _ => n - (intOf i).toNat)
  case atStart => exact ⟨0, Nat.zero_le _, rfl, HO, ⟨Below.refl _ _⟩⟩
  case round =>
    clear HO
    obtain ⟨k, hk, rfl, HO, HB⟩ := hrel
    by_cases hlt : k < n
    · obtain ⟨m, hm⟩ : ∃ m, lenAt l k = m := ⟨_, rfl⟩
      have hm1 := HLS.out k hlt
      rw [hm] at hm1
      have HM := Aside0.mk hm
      clear hm
      go_wp2
      go_loopw [3] (fun j wr2 => ∃ q : Nat, q ≤ m ∧ j = .int .i64 q ∧ Aside0 (Ov base g l wr2) ∧ Aside0 (Below base w wr2)) (fun j _ => m - (intOf j).toNat)
      case atStart => exact ⟨0, Nat.zero_le _, rfl, HO, HB⟩
      case round =>
        clear HO HB
        obtain ⟨q, hq, rfl, HO, HB⟩ := hrel
        obtain ⟨A, c2, hA, hrow⟩ := HO.out k (by rw [HN.out]; exact hlt)
        rw [HM.out] at hA hrow
        by_cases hqm : q < m
        · obtain ⟨g2, rfl, hg2, hne, hcells⟩ := hrow (by omega)
          obtain ⟨⟨x, hx⟩, hfz⟩ := hcells q hqm
          clear hcells hrow
          go_wp2
          go_region
          all_goals
            go_wp2
            exact ⟨⟨q + 1, by omega, by go_num, ⟨(HO.out.set ⟨g2, q, none⟩ _ hne).drew⟩, ⟨below_drew (HB.out.setCell (p := ⟨g2, q, none⟩) hg2 _)⟩⟩, by simp [intOf]; omega⟩
        · obtain rfl : q = m := by omega
          clear hrow
          go_wp2
          exact ⟨⟨k + 1, by omega, by go_num, HO, HB⟩, by simp [intOf]; omega⟩
    · obtain rfl : k = n := by omega
      go_wp2
      go_end0
      exact ⟨rfl, HB.out⟩
set_option maxRecDepth 100000 in
theorem over_nil (A : Option Addr) (c : Nat) (w : World) : Calls Try.prog 14 #[.slice A 0 c] w fun e w' => e = .returned (.tuple #[]) ∧ w' = w := by
  go_enter Try.func14, Try.ntmps14
  go_wp2
  go_loopw [2] (fun i wr => i = .int .i64 0 ∧ wr = w) (fun _ _ => 0)
  case atStart => exact ⟨rfl, rfl⟩
  case round =>
    obtain ⟨rfl, rfl⟩ := hrel
    go_wp2
    go_end0
    exact ⟨rfl, rfl⟩
theorem over_any (base n : Nat) (A : Option Addr) (c : Nat) (l : List Sg) (w : World) (hR : Kd.R kS 45 w base (fun _ => True) (.slice A n c) l) (hn : l.length = n) (hl : n ≤ 1000000) (hls : ∀ i, i < n → lenAt l i ≤ 1000000) :
    Calls Try.prog 14 #[.slice A n c] w fun e w' => e = .returned (.tuple #[]) ∧ Below base w w' := by
  rcases Nat.eq_zero_or_pos n with h0 | h0
  · subst h0
    refine (over_nil A c w).mono ?_
    rintro e w' ⟨rfl, rfl⟩
    exact ⟨rfl, Below.refl _ _⟩
  · obtain ⟨g, cap, he, _, _, _⟩ := Kd.R_form hR (by omega)
    injection he with he1 _ _
    subst he1
    exact over_some base g n c l w (Ov.of_R hR hn) hn hl hls
end Go.Proofs.Yteflphhdafhapaa.Rng
