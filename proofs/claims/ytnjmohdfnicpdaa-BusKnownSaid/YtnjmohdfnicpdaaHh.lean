/- container/heap's down, of the bus (printed by gen_hh.py). -/
import Derived.Test.YtnjmohdfnicpdaaHg
namespace Go.Proofs.Ytnjmohdfnicpdaa.Bus
open Go.RowKit Go.Shelf Go.Lib Go.Sort Go.Proofs.Ytnjmohdfnicpdaa.Frm Go.Proofs.Ytnjmohdfnicpdaa.Rng Go.Proofs.YtnjmohdfnicpdaaW.PrintWords Go.Proofs.YtnjmohdfnicpdaaW.PrintMore Go.Proofs.YtnjmohdfnicpdaaW.PrintLast

theorem min_two {l : List Sn} {n k : Nat} (h : 2 * k + 2 < n) (hq : aheadC (nth l (2 * k + 2)) (nth l (2 * k + 1)) = true) : MinC l n k (2 * k + 2) := by
  refine ⟨by omega, by unfold par; omega, h, fun c h0 hc hp => ?_⟩
  rcases (par_two h0).1 hp with rfl | rfl
  · exact ahead_asym hq
  · exact ahead_swo.irrefl _
theorem min_one {l : List Sn} {n k : Nat} (h : 2 * k + 1 < n) (hq : 2 * k + 2 < n → aheadC (nth l (2 * k + 2)) (nth l (2 * k + 1)) = false) : MinC l n k (2 * k + 1) := by
  refine ⟨by omega, by unfold par; omega, h, fun c h0 hc hp => ?_⟩
  rcases (par_two h0).1 hp with rfl | rfl
  · exact ahead_swo.irrefl _
  · exact hq hc
theorem nth_swL_far {l : List Sn} {i j n : Nat} (hi : i < n) (hj : j < n) (k : Nat) (hk : n ≤ k) : (swL l i j)[k]? = l[k]? := swL_take hi hj k hk
set_option maxHeartbeats 4000000 in
set_option maxRecDepth 100000 in
theorem down_any (w : World) (g : Nat) (v : Value) (l : List Sn) (N : Int) (i0 n : Nat) (h : BusAt w g v l N) (hF : HpF l n (i0 + 1)) (hn : n ≤ l.length) (hi : i0 ≤ l.length) (hl : l.length ≤ 100000) :
    Calls Try.prog 35 #[.iface 66 (.pointer (some ⟨g, 0, none⟩)), .int .i64 i0, .int .i64 n] w fun e w' => (∃ b, e = .returned (.bool b)) ∧ ∃ l', BusAt w' g v l' N ∧ l'.Perm l ∧ HpF l' n i0 ∧ (∀ k, n ≤ k → l'[k]? = l[k]?) ∧ Turn g v v w w' := by
  have mL := m_less g
  have mS := m_swap g
  obtain ⟨L, hL⟩ : ∃ L, l.length = L := ⟨_, rfl⟩
  rw [hL] at hn hi hl
  go_enter Try.func35, Try.ntmps35
  go_wp2_with (fail)
  go_loopw [7] (fun i wr => ∃ (k : Nat) (l1 : List Sn), i = .int .i64 k ∧ Aside0 (BusAt wr g v l1 N) ∧ Aside0 (HpD l1 n i0 k) ∧ Aside0 (l1.Perm l) ∧ Aside0 (∀ k, n ≤ k → l1[k]? = l[k]?) ∧ k ≤ L ∧ l1.length = L ∧ Aside0 (Turn g v v w wr)) (fun i _ => n - (intOf i).toNat)
  case atStart => exact ⟨i0, l, rfl, ⟨h⟩, ⟨HpD.start hF⟩, ⟨.refl _⟩, ⟨fun _ _ => rfl⟩, hi, hL, ⟨Turn.refl _ _ _⟩⟩
  case round =>
    obtain ⟨k, l1, rfl, HB, HD, HP, HE, hk, hl1, HT⟩ := hrel
    have e1 : 2 * (k : Int) + 1 = ((2 * k + 1 : Nat) : Int) := by omega
    have e2 : ((2 * k + 1 : Nat) : Int) + 1 = ((2 * k + 2 : Nat) : Int) := by omega
    obtain ⟨j1, hj1⟩ : ∃ j1, 2 * k + 1 = j1 := ⟨_, rfl⟩
    obtain ⟨j2, hj2⟩ : ∃ j2, 2 * k + 2 = j2 := ⟨_, rfl⟩
    have M2 := Aside0.mk (min_two (l := l1) (n := n) (k := k))
    have M1 := Aside0.mk (min_one (l := l1) (n := n) (k := k))
    have J := Aside0.mk (show j1 = 2 * k + 1 ∧ j2 = 2 * k + 2 from ⟨hj1.symm, hj2.symm⟩)
    rw [hj1] at e1 e2
    rw [hj2] at e2
    rw [hj1, hj2] at M2 M1
    have b1 : j1 ≤ 200001 := by omega
    have b2 : j2 ≤ 200002 := by omega
    clear hj1 hj2
    by_cases hc1 : j1 < n
    · by_cases hc2 : j2 < n
      · go_wp2_with (fail)
        refine (less_any wr g v l1 N j2 j1 HB.out (by omega) (by omega) (by omega)).mono ?_
        rintro e w1 ⟨rfl, nd, os, hw1⟩
        have HB1 := Aside0.mk (hw1 ▸ HB.out.grown nd os)
        have HT1 := Aside0.mk (HT.out.trans (hw1 ▸ Turn.grow g v wr nd os))
        clear hw1 HB HT
        obtain ⟨q, hq⟩ : ∃ q, aheadC (nth l1 j2) (nth l1 j1) = q := ⟨_, rfl⟩
        rw [hq] at M2 M1
        rw [hq]
        clear hq
        rcases q with _ | _
        · have HM := Aside0.mk (M1.out hc1 (fun _ => rfl))
          clear M1 M2
          go_wp2_with (fail)
          refine (less_any w1 g v l1 N j1 k HB1.out (by omega) (by omega) (by omega)).mono ?_
          rintro e w2 ⟨rfl, nd, os, hw2⟩
          have HB2 := Aside0.mk (hw2 ▸ HB1.out.grown nd os)
          have HT2 := Aside0.mk (HT1.out.trans (hw2 ▸ Turn.grow g v _ nd os))
          clear hw2 HB1 HT1
          obtain ⟨q, hq⟩ : ∃ q, aheadC (nth l1 j1) (nth l1 k) = q := ⟨_, rfl⟩
          rw [hq]
          have HQ := Aside0.mk hq
          clear hq
          rcases q with _ | _
          · go_wp2_with (fail)
            go_ret
            exact ⟨⟨_, rfl⟩, l1, HB2.out, HP.out, HD.out.done (HM.out.none HQ.out), HE.out, HT2.out⟩
          · go_wp2_with (fail)
            refine (swap_any w2 g v l1 N k j1 HB2.out (by omega) (by omega) (by omega)).mono ?_
            rintro e w3 ⟨rfl, hb3, hf3⟩
            have HB3 := Aside0.mk hb3
            have HT3 := Aside0.mk (HT2.out.trans (Turn.of_fr hf3))
            have HD3 := Aside0.mk (HD.out.step (show n ≤ l1.length by omega) HM.out HQ.out)
            have HP3 := Aside0.mk ((swL_perm (show k < l1.length by omega) (show j1 < l1.length by omega)).trans HP.out)
            have HE3 := Aside0.mk (show ∀ t, n ≤ t → (swL l1 k j1)[t]? = l[t]? from fun t ht => (swL_take (show k < n by omega) (show j1 < n by omega) t ht).trans (HE.out t ht))
            have hl3 : (swL l1 k j1).length = L := by rw [swL_len]; exact hl1
            clear hb3 hf3
            go_wp2_with (fail)
            go_roundw
            case rel => exact ⟨j1, swL l1 k j1, rfl, HB3, HD3, HP3, HE3, by omega, hl3, HT3⟩
            case measure => simp [intOf]; omega
        · have HM := Aside0.mk (M2.out hc2 rfl)
          clear M1 M2
          go_wp2_with (fail)
          refine (less_any w1 g v l1 N j2 k HB1.out (by omega) (by omega) (by omega)).mono ?_
          rintro e w2 ⟨rfl, nd, os, hw2⟩
          have HB2 := Aside0.mk (hw2 ▸ HB1.out.grown nd os)
          have HT2 := Aside0.mk (HT1.out.trans (hw2 ▸ Turn.grow g v _ nd os))
          clear hw2 HB1 HT1
          obtain ⟨q, hq⟩ : ∃ q, aheadC (nth l1 j2) (nth l1 k) = q := ⟨_, rfl⟩
          rw [hq]
          have HQ := Aside0.mk hq
          clear hq
          rcases q with _ | _
          · go_wp2_with (fail)
            go_ret
            exact ⟨⟨_, rfl⟩, l1, HB2.out, HP.out, HD.out.done (HM.out.none HQ.out), HE.out, HT2.out⟩
          · go_wp2_with (fail)
            refine (swap_any w2 g v l1 N k j2 HB2.out (by omega) (by omega) (by omega)).mono ?_
            rintro e w3 ⟨rfl, hb3, hf3⟩
            have HB3 := Aside0.mk hb3
            have HT3 := Aside0.mk (HT2.out.trans (Turn.of_fr hf3))
            have HD3 := Aside0.mk (HD.out.step (show n ≤ l1.length by omega) HM.out HQ.out)
            have HP3 := Aside0.mk ((swL_perm (show k < l1.length by omega) (show j2 < l1.length by omega)).trans HP.out)
            have HE3 := Aside0.mk (show ∀ t, n ≤ t → (swL l1 k j2)[t]? = l[t]? from fun t ht => (swL_take (show k < n by omega) (show j2 < n by omega) t ht).trans (HE.out t ht))
            have hl3 : (swL l1 k j2).length = L := by rw [swL_len]; exact hl1
            clear hb3 hf3
            go_wp2_with (fail)
            go_roundw
            case rel => exact ⟨j2, swL l1 k j2, rfl, HB3, HD3, HP3, HE3, by omega, hl3, HT3⟩
            case measure => simp [intOf]; omega
      · have HM := Aside0.mk (M1.out hc1 (fun hh => absurd hh hc2))
        obtain ⟨w1, hw1⟩ : ∃ w1, w1 = wr := ⟨_, rfl⟩
        have HB1 := HB
        have HT1 := HT
        clear M1 M2 HB HT
        go_wp2_with (fail)
        refine (less_any wr g v l1 N j1 k HB1.out (by omega) (by omega) (by omega)).mono ?_
        rintro e w2 ⟨rfl, nd, os, hw2⟩
        have HB2 := Aside0.mk (hw2 ▸ HB1.out.grown nd os)
        have HT2 := Aside0.mk (HT1.out.trans (hw2 ▸ Turn.grow g v _ nd os))
        clear hw2 HB1 HT1
        obtain ⟨q, hq⟩ : ∃ q, aheadC (nth l1 j1) (nth l1 k) = q := ⟨_, rfl⟩
        rw [hq]
        have HQ := Aside0.mk hq
        clear hq
        rcases q with _ | _
        · go_wp2_with (fail)
          go_ret
          exact ⟨⟨_, rfl⟩, l1, HB2.out, HP.out, HD.out.done (HM.out.none HQ.out), HE.out, HT2.out⟩
        · go_wp2_with (fail)
          refine (swap_any w2 g v l1 N k j1 HB2.out (by omega) (by omega) (by omega)).mono ?_
          rintro e w3 ⟨rfl, hb3, hf3⟩
          have HB3 := Aside0.mk hb3
          have HT3 := Aside0.mk (HT2.out.trans (Turn.of_fr hf3))
          have HD3 := Aside0.mk (HD.out.step (show n ≤ l1.length by omega) HM.out HQ.out)
          have HP3 := Aside0.mk ((swL_perm (show k < l1.length by omega) (show j1 < l1.length by omega)).trans HP.out)
          have HE3 := Aside0.mk (show ∀ t, n ≤ t → (swL l1 k j1)[t]? = l[t]? from fun t ht => (swL_take (show k < n by omega) (show j1 < n by omega) t ht).trans (HE.out t ht))
          have hl3 : (swL l1 k j1).length = L := by rw [swL_len]; exact hl1
          clear hb3 hf3
          go_wp2_with (fail)
          go_roundw
          case rel => exact ⟨j1, swL l1 k j1, rfl, HB3, HD3, HP3, HE3, by omega, hl3, HT3⟩
          case measure => simp [intOf]; omega
    · go_wp2_with (fail)
      go_ret
      refine ⟨⟨_, rfl⟩, l1, HB.out, HP.out, HD.out.done (fun c h0 hc hp => ?_), HE.out, HT.out⟩
      rcases (par_two h0).1 hp with h2 | h2
      · have := J.out.1
        omega
      · have := J.out.2
        omega
end Go.Proofs.Ytnjmohdfnicpdaa.Bus
