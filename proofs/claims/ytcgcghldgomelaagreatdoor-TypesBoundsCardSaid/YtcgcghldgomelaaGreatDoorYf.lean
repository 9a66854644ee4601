/- TypesCompare, walked. -/
import Derived.Test.YtcgcghldgomelaaGreatDoorYe
import Derived.Test.YtcgcghldgomelaaGreatDoorRo
namespace Go.Proofs.YtcgcghldgomelaaGreatDoor.Mp
open Go.RowKit Go.Shelf Go.Proofs.YtcgcghldgomelaaGreatDoor.Rng Go.Proofs.YtcgcghldgomelaaGreatDoorW.PrintWords Go.Proofs.YtcgcghldgomelaaGreatDoorW.PrintMore Go.Proofs.YtcgcghldgomelaaGreatDoorW.PrintLast

set_option maxRecDepth 100000 in
set_option maxHeartbeats 4000000 in
theorem rcompare_any (t : Int) (A : Option Addr) (c : Nat) (a : List Int) (B : Option Addr) (d : Nat) (b : List Int) (w : World) (ha : Arg w A c a) (hb : Arg w B d b) :
    Calls Tryz.prog 19 #[.int .u8 t, .slice A a.length c, .slice B b.length d] w (CmpSaid w (cmpC t a b)) := by
  rw [cmp_R t ha.byt hb.byt]
  have hrf : Below w.heap.size w w := Below.refl _ _
  have HOA := Aside0.mk fun W (hW : Below w.heap.size w W) => rordered_any t A c a W (ha.below hW)
  have HOB := Aside0.mk fun W (hW : Below w.heap.size w W) => rordered_any t B d b W (hb.below hW)
  by_cases h1 : ordR t a
  · have D1 := Aside0.mk (decide_eq_true h1)
    by_cases h2 : ordR t b
    · have D2 := Aside0.mk (decide_eq_true h2)
      rw [if_pos ⟨h1, h2⟩]
      have HKA := Aside0.mk fun W (hW : Below w.heap.size w W) => rkey_any t A c a W (ha.below hW) h1.1 h1.2.1
      have HKB := Aside0.mk fun W (hW : Below w.heap.size w W) => rkey_any t B d b W (hb.below hW) h2.1 h2.2.1
      have G0 := Aside0.mk True.intro
      have G1 := Aside0.mk True.intro
      generalize keyR t a = x at *
      generalize keyR t b = y at *
      generalize a.length = na at *
      generalize b.length = nb at *
      clear ha hb h1 h2
      by_cases hlt : x < y
      · have dl := decide_eq_true hlt
        rw [show cmp3 x y = -1 from if_pos hlt]
        go_enter Tryz.func19, Tryz.ntmps19
        go_wp2_with (first
          | (have hg := G0.out; clear hg; go_at_call 38; refine (HOA.out _ hrf).mono ?_; rw [D1.out]; rintro e w1 ⟨rfl, hw⟩; have hw := hw.symm; subst hw; clear G0)
          | (go_at_call 38; refine (HOB.out _ hrf).mono ?_; rw [D2.out]; rintro e w1 ⟨rfl, hw⟩; have hw := hw.symm; subst hw)
          | (have hg := G1.out; clear hg; go_at_call 40; refine (HKA.out _ hrf).mono ?_; rintro e w2 ⟨rfl, hb2⟩; have HB2 := Aside0.mk hb2; clear hb2 G1)
          | (go_at_call 40; refine (HKB.out _ HB2.out).mono ?_; rintro e w3 ⟨rfl, hb3⟩; have HB3 := Aside0.mk (HB2.out.trans (hb3.mono HB2.out.size)); clear hb3))
        go_ret2
        exact ⟨rfl, HB3.out⟩
      · have dl := decide_eq_false hlt
        by_cases hgt : y < x
        · have dg := decide_eq_true hgt
          rw [show cmp3 x y = 1 by unfold cmp3; rw [if_neg hlt, if_pos hgt]]
          go_enter Tryz.func19, Tryz.ntmps19
          go_wp2_with (first
            | (have hg := G0.out; clear hg; go_at_call 38; refine (HOA.out _ hrf).mono ?_; rw [D1.out]; rintro e w1 ⟨rfl, hw⟩; have hw := hw.symm; subst hw; clear G0)
            | (go_at_call 38; refine (HOB.out _ hrf).mono ?_; rw [D2.out]; rintro e w1 ⟨rfl, hw⟩; have hw := hw.symm; subst hw)
            | (have hg := G1.out; clear hg; go_at_call 40; refine (HKA.out _ hrf).mono ?_; rintro e w2 ⟨rfl, hb2⟩; have HB2 := Aside0.mk hb2; clear hb2 G1)
            | (go_at_call 40; refine (HKB.out _ HB2.out).mono ?_; rintro e w3 ⟨rfl, hb3⟩; have HB3 := Aside0.mk (HB2.out.trans (hb3.mono HB2.out.size)); clear hb3))
          go_ret2
          exact ⟨rfl, HB3.out⟩
        · have dg := decide_eq_false hgt
          rw [show cmp3 x y = 0 by unfold cmp3; rw [if_neg hlt, if_neg hgt]]
          go_enter Tryz.func19, Tryz.ntmps19
          go_wp2_with (first
            | (have hg := G0.out; clear hg; go_at_call 38; refine (HOA.out _ hrf).mono ?_; rw [D1.out]; rintro e w1 ⟨rfl, hw⟩; have hw := hw.symm; subst hw; clear G0)
            | (go_at_call 38; refine (HOB.out _ hrf).mono ?_; rw [D2.out]; rintro e w1 ⟨rfl, hw⟩; have hw := hw.symm; subst hw)
            | (have hg := G1.out; clear hg; go_at_call 40; refine (HKA.out _ hrf).mono ?_; rintro e w2 ⟨rfl, hb2⟩; have HB2 := Aside0.mk hb2; clear hb2 G1)
            | (go_at_call 40; refine (HKB.out _ HB2.out).mono ?_; rintro e w3 ⟨rfl, hb3⟩; have HB3 := Aside0.mk (HB2.out.trans (hb3.mono HB2.out.size)); clear hb3))
          go_ret2
          exact ⟨rfl, HB3.out⟩
    · have D2 := Aside0.mk (decide_eq_false h2)
      rw [if_neg (fun h => h2 h.2)]
      have G0 := Aside0.mk True.intro
      generalize a.length = na at *
      generalize b.length = nb at *
      clear ha hb h1 h2
      go_enter Tryz.func19, Tryz.ntmps19
      go_wp2_with (first
        | (have hg := G0.out; clear hg; go_at_call 38; refine (HOA.out _ hrf).mono ?_; rw [D1.out]; rintro e w1 ⟨rfl, hw⟩; have hw := hw.symm; subst hw; clear G0)
        | (go_at_call 38; refine (HOB.out _ hrf).mono ?_; rw [D2.out]; rintro e w1 ⟨rfl, hw⟩; have hw := hw.symm; subst hw))
      go_ret2
      exact ⟨rfl, hrf⟩
  · have D1 := Aside0.mk (decide_eq_false h1)
    rw [if_neg (fun h => h1 h.1)]
    generalize a.length = na at *
    generalize b.length = nb at *
    clear ha hb h1
    go_enter Tryz.func19, Tryz.ntmps19
    go_wp2_with (go_at_call 38; refine (HOA.out _ hrf).mono ?_; rw [D1.out]; rintro e w1 ⟨rfl, hw⟩; have hw := hw.symm; subst hw)
    go_ret2
    exact ⟨rfl, hrf⟩
set_option maxRecDepth 100000 in
set_option maxHeartbeats 4000000 in
theorem compares_any (t : Int) (ht : 0 ≤ t ∧ t < 256) (A : Option Addr) (c : Nat) (a : List Int) (B : Option Addr) (d : Nat) (b : List Int) (w : World) (h : Tbl w) (hT : Tabs w) (ha : Arg w A c a) (hb : Arg w B d b) :
    Calls Tryz.prog 4 #[.int .u8 t, .slice A a.length c, .slice B b.length d] w fun e w' => e = .returned (.bool true) ∧ Below w.heap.size w w' := by
  have hrf : Below w.heap.size w w := Below.refl _ _
  have HW := Aside0.mk fun W (hW : Below w.heap.size w W) => works01_any W (hT.below hW) (h.below hW)
  have HC := Aside0.mk fun W (hW : Below w.heap.size w W) => compare_any t ht A c a B d b W (h.below hW) (ha.below hW).rd ha.byt ha.le ha.cap (hb.below hW).rd hb.byt hb.le hb.cap
  have HR := Aside0.mk fun W (hW : Below w.heap.size w W) => rcompare_any t A c a B d b W (ha.below hW) (hb.below hW)
  generalize cmpC t a b = r at *
  obtain ⟨n, ok⟩ := r
  generalize a.length = na at *
  generalize b.length = nb at *
  clear ha hb h hT
  have G0 := Aside0.mk True.intro
  by_cases h1 : (5000 : Int) < na
  · have d1 := decide_eq_true h1
    go_enter Tryz.func4, Tryz.ntmps4
    go_wp2_with (go_at_call 14; refine (HW.out _ hrf).mono ?_; rintro e w1 ⟨rfl, hb1⟩; have HB1 := Aside0.mk hb1; clear hb1)
    go_ret
    exact ⟨rfl, HB1.out⟩
  · have d1 := decide_eq_false h1
    by_cases h2 : (5000 : Int) < nb
    · have d2 := decide_eq_true h2
      go_enter Tryz.func4, Tryz.ntmps4
      go_wp2_with (go_at_call 14; refine (HW.out _ hrf).mono ?_; rintro e w1 ⟨rfl, hb1⟩; have HB1 := Aside0.mk hb1; clear hb1)
      go_ret
      exact ⟨rfl, HB1.out⟩
    · have d2 := decide_eq_false h2
      go_enter Tryz.func4, Tryz.ntmps4
      go_wp2_with (first
        | (go_at_call 18; refine (HC.out _ hrf).mono ?_; rintro e w1 ⟨rfl, hb1⟩; have HB1 := Aside0.mk hb1; clear hb1)
        | (go_at_call 19; refine (HR.out _ HB1.out).mono ?_; rintro e w2 ⟨rfl, hb2⟩; have HB2 := Aside0.mk (HB1.out.trans (hb2.mono HB1.out.size)); clear hb2)
        | (go_at_call 14; refine (HW.out _ HB2.out).mono ?_; rintro e w3 ⟨rfl, hb3⟩; have HB3 := Aside0.mk (HB2.out.trans (hb3.mono HB2.out.size)); clear hb3))
      go_ret
      exact ⟨rfl, HB3.out⟩
end Go.Proofs.YtcgcghldgomelaaGreatDoor.Mp
