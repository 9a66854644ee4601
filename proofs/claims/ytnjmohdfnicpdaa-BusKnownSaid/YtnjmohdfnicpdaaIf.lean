/- The walk over BusPlays (filled by fill.py). -/
import Derived.Test.YtnjmohdfnicpdaaIe
namespace Go.Proofs.Ytnjmohdfnicpdaa.Bus
open Go.RowKit Go.Shelf Go.Lib Go.Sort Go.Proofs.Ytnjmohdfnicpdaa.Frm Go.Proofs.Ytnjmohdfnicpdaa.Rng Go.Proofs.YtnjmohdfnicpdaaW.PrintWords Go.Proofs.YtnjmohdfnicpdaaW.PrintMore Go.Proofs.YtnjmohdfnicpdaaW.PrintLast

set_option maxHeartbeats 8000000 in
set_option maxRecDepth 100000 in
theorem plays_any (A : Option Addr) (c : Nat) (l : List Stp) (w : World) (hs : StsAt w A l) :
    Calls Try.prog 4 #[.slice A l.length c] w (WorkSaid w) := by
  have HST := Aside0.mk hs
  obtain ⟨n, hn⟩ : ∃ n, l.length = n := ⟨_, rfl⟩
  have HN := Aside0.mk hn
  rw [hn]
  clear hs hn
  have HPK := Aside0.mk pick_any
  go_enter Try.func4, Try.ntmps4
  go_wp2_with (fail)
  go_loopw [3, 4] (fun t i wr => ∃ (k : Nat) (T : Int), i = .int .i64 k ∧ t = .int .i64 T ∧ 0 ≤ T ∧ T ≤ 600 * k ∧ k ≤ 61 ∧ k ≤ n ∧ wr = w) (fun _ i _ => n - (intOf i).toNat)
  case atStart => exact ⟨0, 0, rfl, rfl, by omega, by omega, by omega, by omega, rfl⟩
  case round =>
    obtain ⟨k, T, rfl, rfl, hT0, hT1, hk61, hkn, rfl⟩ := hrel
    by_cases hlt : k < n
    · by_cases h60 : k ≤ 60
      · obtain ⟨s, hsk⟩ : ∃ s, l[k]? = some s := ⟨_, List.getElem?_eq_getElem (by rw [HN.out]; exact hlt)⟩
        obtain ⟨ad, rfl⟩ := HST.out.1 (by rw [HN.out]; omega)
        have f13 := (HST.out.2 k s hsk ad rfl).2.2.2.2.2.2.2.2.2.2.2.2.2
        have hb := pick_bound s.tm 600 (by decide)
        have HP := Aside0.mk (HPK.out s.tm 600)
        obtain ⟨p, hp⟩ : ∃ p, pickC s.tm 600 = p := ⟨_, rfl⟩
        rw [hp] at hb HP
        obtain ⟨hb0, hb1⟩ := hb
        clear hsk hp
        go_wp2_with (fail)
        refine (HP.out _ (by decide) (by decide)).mono ?_
        rintro e w0 ⟨rfl, hw0⟩
        have hw0 := hw0.symm
        subst hw0
        clear f13
        go_wp2_with (fail)
        go_roundw
        case rel => exact ⟨k + 1, T + p, by go_num, by go_num, by omega, by omega, by omega, by omega, by trivial⟩
        case measure => simp [intOf]; omega
      · have hn60 : 60 < n := by omega
        go_wp2_with (fail)
        refine (works_any _).mono ?_
        rintro e w0 ⟨rfl, hw0⟩
        have HW := Aside0.mk hw0
        clear hw0
        go_wp2_with (fail)
        go_ret
        exact ⟨rfl, HW.out⟩
    · obtain rfl : k = n := by omega
      by_cases hgo : 60 < k ∨ 1500 < T
      · have HWK := Aside0.mk (works_any wr)
        rcases Nat.lt_or_ge 60 k with h1 | h1
        · go_wp2_with (fail)
          refine HWK.out.mono ?_
          rintro e w0 ⟨rfl, hw0⟩
          have HW := Aside0.mk hw0
          clear hw0
          go_wp2_with (fail)
          go_ret
          exact ⟨rfl, HW.out⟩
        · have h2 : 1500 < T := by omega
          go_wp2_with (fail)
          refine HWK.out.mono ?_
          rintro e w0 ⟨rfl, hw0⟩
          have HW := Aside0.mk hw0
          clear hw0
          go_wp2_with (fail)
          go_ret
          exact ⟨rfl, HW.out⟩
      · have h60 : k ≤ 60 := by omega
        have h15 : T ≤ 1500 := by omega
        clear hgo
        go_wp2_with (fail)
        refine (bnew_any wr).mono ?_
        rintro e w1 ⟨rfl, hb1, hw1⟩
        have hnp := new_pair hb1 hw1 hb1.lt
        have hal := below_alloc (Below.refl w1.heap.size w1) (.cells #[.slice none 0 0, .int .i64 0] 49)
        have HX0 := Aside0.mk (show PairW (w1.alloc (.cells #[.slice none 0 0, .int .i64 0] 49)) (fun b => wr.heap.size ≤ b ∧ b ≤ w1.heap.size) wr.heap.size w1.heap.size [] 0 from ⟨_, _, _, _, hnp⟩)
        have HW0 := Aside0.mk (show Below wr.heap.size wr (w1.alloc (.cells #[.slice none 0 0, .int .i64 0] 49)) from hw1.trans (hal.mono hw1.size))
        clear hb1 hw1 hnp hal
        go_wp2_with (fail)
        obtain ⟨g0, hg0⟩ : ∃ g0, wr.heap.size = g0 := ⟨_, rfl⟩
        obtain ⟨m0, hm0⟩ : ∃ m0, w1.heap.size = m0 := ⟨_, rfl⟩
        rw [hg0, hm0] at HX0
        rw [hg0, hm0]
        have HG0 := Aside0.mk hg0
        clear hg0 hm0
        generalize w1.alloc (.cells #[.slice none 0 0, .int .i64 0] 49) = W0 at HX0 HW0 ⊢
        obtain ⟨w, hwr⟩ : ∃ w, w = wr := ⟨_, rfl⟩
        rw [← hwr] at HST HW0 HG0
        have HWR := Aside0.mk hwr
        clear hwr
        obtain ⟨n, hkn⟩ : ∃ n, n = k := ⟨_, rfl⟩
        rw [← hkn] at HN h60 ⊢
        clear hkn
        go_loopw [5, 6, 7, 8, 9] (fun a b lf kp i wr => ∃ (k g gm g2 gm2 : Nat) (S : Nat → Prop) (L : List Sn) (N : Int), a = .pointer (some ⟨g, 0, none⟩) ∧ b = .pointer (some ⟨gm, 0, none⟩) ∧ lf = .pointer (some ⟨g2, 0, none⟩) ∧ kp = .pointer (some ⟨gm2, 0, none⟩) ∧ i = .int .i64 k ∧ k ≤ n ∧ N ≤ 601 * k ∧ Aside0 (PairW wr S g gm L N) ∧ Aside0 (Left wr w.heap.size S g gm g2 gm2) ∧ Aside0 (∀ k, S k → w.heap.size ≤ k) ∧ Aside0 (Below w.heap.size w wr)) (fun _ _ _ _ i _ => n - (intOf i).toNat)
        case atStart => exact ⟨0, g0, m0, g0, m0, _, [], 0, rfl, rfl, rfl, rfl, rfl, by omega, by omega, HX0, ⟨.inl ⟨rfl, rfl⟩⟩, ⟨fun b hb => by have := HG0.out; omega⟩, HW0⟩
        case round =>
          obtain ⟨k, gx, gmx, g2, gm2, Sx, Lx, Nx, rfl, rfl, rfl, rfl, rfl, hkn, hNx, HXX, HLX, HSX, HWX⟩ := hrel
          by_cases hlt : k < n
          · obtain ⟨s, hsk⟩ : ∃ s, l[k]? = some s := ⟨_, List.getElem?_eq_getElem (by rw [HN.out]; exact hlt)⟩
            obtain ⟨ad, rfl⟩ := HST.out.1 (by rw [HN.out]; omega)
            have HSK := Aside0.mk hsk
            have f0 := ((HST.out.below HWX.out).2 k s hsk ad rfl).1
            have hb := pick_bound s.kd 6 (by decide)
            have HP := Aside0.mk (HPK.out s.kd 6)
            obtain ⟨p, hp⟩ : ∃ p, pickC s.kd 6 = p := ⟨_, rfl⟩
            rw [hp] at hb HP
            obtain ⟨hb0, hb1⟩ := hb
            clear hsk hp
            go_wp2_with (fail)
            refine (HP.out _ (by decide) (by decide)).mono ?_
            rintro e w0 ⟨rfl, hw0⟩
            have hw0 := hw0.symm
            subst hw0
            by_cases h5 : p = 5
            · subst h5
              go_wp2_with (fail)
              obtain ⟨vo, lo, Ao, co, hxo⟩ := HXX.out
              have HXO := Aside0.mk hxo
              have HCB := Aside0.mk (bcopy_any wr gx vo lo Nx hxo.bus hxo.llen)
              clear hxo
              refine HCB.out.mono ?_
              rintro e w3 ⟨g3, v3, rfl, hg3, hv3, hb3, hw3⟩
              have HB3 := Aside0.mk (show _ ∧ _ from ⟨hg3, hv3⟩)
              have HBU3 := Aside0.mk hb3
              have HW3 := Aside0.mk hw3
              have HCR := Aside0.mk (rcopy_any w3 gmx Ao co Lx Nx (HXO.out.ref.below hw3) (by have := HXO.out.cap; omega))
              clear hg3 hv3 hb3 hw3 HCB
              go_wp2_with (fail)
              refine HCR.out.mono ?_
              rintro e w4 ⟨m4, A4, c4, rfl, hm4, hA4, hr4, hw4⟩
              have hcp := copy_pair HXO.out HBU3.out HW3.out HB3.out.1 HB3.out.2 hr4 hw4 hm4 hA4
              have HW34 := Aside0.mk (show Below wr.heap.size wr w4 from HW3.out.trans (hw4.mono HW3.out.size))
              have HX4 := Aside0.mk (show PairW w4 (fun k => wr.heap.size ≤ k ∧ k < w4.heap.size) g3 m4 Lx Nx from ⟨_, _, _, _, hcp⟩)
              have HL4 := Aside0.mk (show Left w4 w.heap.size (fun k => wr.heap.size ≤ k ∧ k < w4.heap.size) g3 m4 gx gmx from .inr ⟨Sx, Lx, Nx, HXX.out.fr (Fr.of_below (M := fun _ => False) HW34.out) (fun _ _ h => h), fun k hk hk' => by have := HXO.out.lt k hk; omega, HSX.out⟩)
              have HS4 := Aside0.mk (show ∀ k, (wr.heap.size ≤ k ∧ k < w4.heap.size) → w.heap.size ≤ k from fun k hk => by have := HWX.out.size; omega)
              have HW4 := Aside0.mk (show Below w.heap.size w w4 from HWX.out.trans (HW34.out.mono HWX.out.size))
              clear hcp hr4 hw4 hm4 hA4 HCR HB3 HBU3 HXX HLX
              obtain ⟨-, f1, f2, f3, f4, f5, f6, f7, f8, f9, f10, f11, f12, f13⟩ := (HST.out.below HW4.out).2 k s HSK.out ad rfl
              clear f0
              have f0 := ((HST.out.below HW4.out).2 k s HSK.out ad rfl).1
              have HO := Aside0.mk (one_any w4 _ g3 m4 Lx Nx s HX4.out (by omega))
              go_wp2_with (fail)
              refine HO.out.mono ?_
              rintro e w5 ⟨rfl, S5, L5, N5, hx5, ht5, hn5⟩
              have hfar5 := ht5.far HW4.out HS4.out
              have HX5 := Aside0.mk hx5
              have HS5 := Aside0.mk hfar5.2
              have HW5 := Aside0.mk hfar5.1
              have HL5 := Aside0.mk (HL4.out.turn ht5)
              have HSM := Aside0.mk (same_any w5 S5 g3 m4 L5 N5 hx5)
              clear hx5 ht5 hfar5 HO HX4 HL4 HW4 HS4 f0 f1 f2 f3 f4 f5 f6 f7 f8 f9 f10 f11 f12 f13
              go_wp2_with (fail)
              refine HSM.out.mono ?_
              rintro e w6 ⟨rfl, hb6⟩
              have HX6 := Aside0.mk (HX5.out.fr (Fr.of_below (M := fun _ => False) hb6) (fun _ _ h => h))
              have HL6 := Aside0.mk (HL5.out.turn (PTurn.below hb6))
              have HW6 := Aside0.mk (HW5.out.trans (hb6.mono HW5.out.size))
              clear hb6 HSM HX5 HL5 HW5
              go_wp2_with (fail)
              go_roundw
              case rel => exact ⟨k + 1, g3, m4, gx, gmx, S5, L5, N5, rfl, rfl, rfl, rfl, by go_num, by omega, by omega, HX6, HL6, HS5, HW6⟩
              case measure => simp [intOf]; omega
            · have hp5 : (p == 5) = false := by rw [beq_eq_false_iff_ne]; exact h5
              obtain ⟨-, f1, f2, f3, f4, f5, f6, f7, f8, f9, f10, f11, f12, f13⟩ := (HST.out.below HWX.out).2 k s HSK.out ad rfl
              have HO := Aside0.mk (one_any wr Sx gx gmx Lx Nx s HXX.out (by omega))
              go_wp2_with (fail)
              refine HO.out.mono ?_
              rintro e w5 ⟨rfl, S5, L5, N5, hx5, ht5, hn5⟩
              have hfar5 := ht5.far HWX.out HSX.out
              have HX5 := Aside0.mk hx5
              have HS5 := Aside0.mk hfar5.2
              have HW5 := Aside0.mk hfar5.1
              have HL5 := Aside0.mk (HLX.out.turn ht5)
              have HSM := Aside0.mk (same_any w5 S5 gx gmx L5 N5 hx5)
              clear hx5 ht5 hfar5 HO HXX HLX HWX HSX f0 f1 f2 f3 f4 f5 f6 f7 f8 f9 f10 f11 f12 f13
              go_wp2_with (fail)
              refine HSM.out.mono ?_
              rintro e w6 ⟨rfl, hb6⟩
              have HX6 := Aside0.mk (HX5.out.fr (Fr.of_below (M := fun _ => False) hb6) (fun _ _ h => h))
              have HL6 := Aside0.mk (HL5.out.turn (PTurn.below hb6))
              have HW6 := Aside0.mk (HW5.out.trans (hb6.mono HW5.out.size))
              clear hb6 HSM HX5 HL5 HW5
              go_wp2_with (fail)
              go_roundw
              case rel => exact ⟨k + 1, gx, gmx, g2, gm2, S5, L5, N5, rfl, rfl, rfl, rfl, by go_num, by omega, by omega, HX6, HL6, HS5, HW6⟩
              case measure => simp [intOf]; omega
          · obtain rfl : k = n := by omega
            clear h60
            have HSL := Aside0.mk (show Calls Try.prog 17 #[.pointer (some ⟨g2, 0, none⟩), .pointer (some ⟨gm2, 0, none⟩)] wr (SameSaid wr) from by
              rcases HLX.out with ⟨e1, e2⟩ | ⟨S2, L2, N2, h1, _⟩
              · rw [e1, e2]
                exact same_any wr Sx gx gmx Lx Nx HXX.out
              · exact same_any wr S2 g2 gm2 L2 N2 h1)
            go_wp2_with (fail)
            refine HSL.out.mono ?_
            rintro e w7 ⟨rfl, hb7⟩
            have HWK := Aside0.mk (works_any w7)
            have HW7 := Aside0.mk (HWX.out.trans (hb7.mono HWX.out.size))
            clear hb7 HSL
            go_wp2_with (fail)
            refine HWK.out.mono ?_
            rintro e w8 ⟨rfl, hb8⟩
            have HW8 := Aside0.mk (HW7.out.trans (hb8.mono HW7.out.size))
            clear hb8 HWK
            go_wp2_with (fail)
            go_ret
            have h9 := HW8.out
            rw [HWR.out] at h9
            exact ⟨rfl, h9⟩
end Go.Proofs.Ytnjmohdfnicpdaa.Bus
