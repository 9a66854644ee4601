/- The document's functions of layer 1, walked: Check. -/
import Derived.Test.YtcgcghldgomelaaGreatDoorRo
namespace Go.Proofs.YtcgcghldgomelaaGreatDoor.Mp
open Go.RowKit Go.Shelf Go.Proofs.YtcgcghldgomelaaGreatDoor.Rng Go.Proofs.YtcgcghldgomelaaGreatDoorW.PrintWords Go.Proofs.YtcgcghldgomelaaGreatDoorW.PrintMore Go.Proofs.YtcgcghldgomelaaGreatDoorW.PrintLast

def ChkSaidR (w : World) (r : Int) (e : Ending) (w' : World) : Prop := e = .returned (.int .u32 r) ∧ Below w.heap.size w w'
set_option maxRecDepth 100000 in
set_option maxHeartbeats 8000000 in
theorem rcheck_any (t : Int) (A : Option Addr) (c : Nat) (b : List Int) (A1 : Option Addr) (c1 : Nat) (lo : List Int) (A2 : Option Addr) (c2 : Nat) (hi : List Int) (w : World) (hb : Arg w A c b) (hl : Arg w A1 c1 lo) (hh : Arg w A2 c2 hi) :
    Calls Tryz.prog 17 #[.int .u8 t, .slice A b.length c, .slice A1 lo.length c1, .slice A2 hi.length c2] w (ChkSaidR w (chkR t b lo hi)) := by
  have HPL := Aside0.mk fun W (hW : Below w.heap.size w W) => rplain_any t A c b W (hb.below hW)
  have HK := Aside0.mk fun W => rkind_any t W
  have HOH := Aside0.mk fun W (hW : Below w.heap.size w W) => rordered_any t A2 c2 hi W (hh.below hW)
  have HOL := Aside0.mk fun W (hW : Below w.heap.size w W) => rordered_any t A1 c1 lo W (hl.below hW)
  have hrf : Below w.heap.size w w := Below.refl _ _
  obtain ⟨n, hn⟩ : ∃ n, b.length = n := ⟨_, rfl⟩
  obtain ⟨nl, hnl⟩ : ∃ n, lo.length = n := ⟨_, rfl⟩
  obtain ⟨nh, hnh⟩ : ∃ n, hi.length = n := ⟨_, rfl⟩
  have HN := Aside0.mk (And.intro hn (And.intro hnl hnh))
  obtain ⟨r, hr⟩ : ∃ r, chkR t b lo hi = r := ⟨_, rfl⟩
  have HR := Aside0.mk hr
  rw [hr]
  unfold chkR at hr
  by_cases hp' : plainC t b ≠ 0
  · rw [if_pos (.inl hp')] at hr
    subst hr
    have g : (plainC t b != 0) = true := by simpa using hp'
    rw [hn] at HPL
    rw [hn, hnl, hnh]
    generalize plainC t b = r at *
    clear hb hl hh hp'
    go_enter Tryz.func17, Tryz.ntmps17
    go_wp2_with (go_at_call 37; refine (HPL.out _ hrf).mono ?_; rintro e w1 ⟨rfl, hw⟩; have hw := hw.symm; subst hw)
    go_ret
    exact ⟨rfl, hrf⟩
  have hp : plainC t b = 0 := Classical.not_not.1 hp'
  rw [hp] at HPL
  by_cases h6 : knd t = 6
  · rw [if_pos (.inr h6), hp] at hr
    subst hr
    rw [h6] at HK
    rw [hn] at HPL
    rw [hn, hnl, hnh]
    clear hb hl hh hp'
    go_enter Tryz.func17, Tryz.ntmps17
    go_wp2_with (first
      | (go_at_call 37; refine (HPL.out _ hrf).mono ?_; rintro e w1 ⟨rfl, hw⟩; have hw := hw.symm; subst hw)
      | (go_at_call 25; refine (HK.out _).mono ?_; rintro e w1 ⟨rfl, hw⟩; have hw := hw.symm; subst hw))
    go_ret
    exact ⟨rfl, hrf⟩
  rw [if_neg (show ¬ (plainC t b ≠ 0 ∨ knd t = 6) by rintro (k | k); exact hp' k; exact h6 k)] at hr
  have g6 : (letR (knd t) == 115) = false := by
    have := (letR_eq (knd t) (knd_cases t)).2.2.1
    simpa using fun k => h6 (this.1 k)
  have HNB := Aside0.mk fun W (hW : Below w.heap.size w W) => rnan_any t A c b W (hb.below hW) (plain_8 hp h6)
  have HKB := Aside0.mk fun W (hW : Below w.heap.size w W) => rkey_any t A c b W (hb.below hW) hp h6
  have HKH := Aside0.mk fun (k : ordR t hi) W (hW : Below w.heap.size w W) => rkey_any t A2 c2 hi W (hh.below hW) k.1 h6
  have HKL := Aside0.mk fun (k : ordR t lo) W (hW : Below w.heap.size w W) => rkey_any t A1 c1 lo W (hl.below hW) k.1 h6
  rw [hn] at HPL HNB HKB
  rw [hnh] at HOH HKH
  rw [hnl] at HOL HKL
  rw [hn, hnl, hnh]
  rw [hnh, hnl] at hr
  obtain ⟨L, hL⟩ : ∃ L, letR (knd t) = L := ⟨_, rfl⟩
  rw [hL] at HK g6
  obtain ⟨kb, hkb⟩ : ∃ k, keyR t b = k := ⟨_, rfl⟩
  obtain ⟨kh, hkh⟩ : ∃ k, keyR t hi = k := ⟨_, rfl⟩
  obtain ⟨kl, hkl⟩ : ∃ k, keyR t lo = k := ⟨_, rfl⟩
  rw [hkb] at HKB hr
  rw [hkh] at HKH hr
  rw [hkl] at HKL hr
  have HRR := Aside0.mk hr
  have HF := Aside0.mk (And.intro hp (And.intro h6 hp'))
  clear hb hl hh hr hn hnl hnh hL hp hp' h6 hkb hkh hkl HR
  by_cases hh0 : ¬ 0 < nh
  · have dh : decide ((0 : Int) < (nh : Int)) = false := decide_eq_false (by omega)
    have hu : ¬ (0 < nh ∧ ordR t hi) := fun k => hh0 k.1
    by_cases hl0 : ¬ 0 < nl
    · have dl : decide ((0 : Int) < (nl : Int)) = false := decide_eq_false (by omega)
      have hv : ¬ (0 < nl ∧ ordR t lo) := fun k => hl0 k.1
      obtain rfl : r = 0 := by rw [← HRR.out]; rw [if_neg (fun k => by rcases k.1 with k | k; exact hu k; exact hv k), if_neg (fun k => hu k.1), if_neg (fun k => hv k.1)]
      clear HRR
      have HZ0 := Aside0.mk hrf
      have HZ := HZ0
      have GK0 := Aside0.mk True.intro
      have GH := Aside0.mk True.intro
      go_enter Tryz.func17, Tryz.ntmps17
      go_wp2_with (first
        | (go_at_call 37; refine (HPL.out _ hrf).mono ?_; rintro e w1 ⟨rfl, hw⟩; have hw := hw.symm; subst hw)
        | (go_at_call 25; refine (HK.out _).mono ?_; rintro e w1 ⟨rfl, hw⟩; have hw := hw.symm; subst hw))
      go_ret
      exact ⟨rfl, HZ.out⟩
    have dl : decide ((0 : Int) < (nl : Int)) = true := decide_eq_true (by omega)
    by_cases hol : ¬ ordR t lo
    · have DL := Aside0.mk (decide_eq_false hol)
      have hv : ¬ (0 < nl ∧ ordR t lo) := fun k => hol k.2
      obtain rfl : r = 0 := by rw [← HRR.out]; rw [if_neg (fun k => by rcases k.1 with k | k; exact hu k; exact hv k), if_neg (fun k => hu k.1), if_neg (fun k => hv k.1)]
      clear HRR
      have HZ0 := Aside0.mk hrf
      have HZ := HZ0
      have GK0 := Aside0.mk True.intro
      have GH := Aside0.mk True.intro
      go_enter Tryz.func17, Tryz.ntmps17
      go_wp2_with (first
        | (go_at_call 37; refine (HPL.out _ hrf).mono ?_; rintro e w1 ⟨rfl, hw⟩; have hw := hw.symm; subst hw)
        | (go_at_call 25; refine (HK.out _).mono ?_; rintro e w1 ⟨rfl, hw⟩; have hw := hw.symm; subst hw)
        | (go_at_call 38; refine (HOL.out _ hrf).mono ?_; rw [DL.out]; rintro e w1 ⟨rfl, hw⟩; have hw := hw.symm; subst hw))
      go_ret
      exact ⟨rfl, HZ.out⟩
    · have hol' : ordR t lo := Classical.not_not.1 hol
      have DL := Aside0.mk (decide_eq_true hol')
      have hv : 0 < nl ∧ ordR t lo := ⟨by omega, hol'⟩
      by_cases hq : nanR t b
      · have DQ := Aside0.mk (decide_eq_true hq)
        obtain rfl : r = 101253168 := by rw [← HRR.out]; rw [if_pos ⟨.inr hv, hq⟩]
        clear HRR
        have HZ0 := Aside0.mk hrf
        have HZ := HZ0
        have GK0 := Aside0.mk True.intro
        have GH := Aside0.mk True.intro
        go_enter Tryz.func17, Tryz.ntmps17
        go_wp2_with (first
          | (go_at_call 37; refine (HPL.out _ hrf).mono ?_; rintro e w1 ⟨rfl, hw⟩; have hw := hw.symm; subst hw)
          | (go_at_call 25; refine (HK.out _).mono ?_; rintro e w1 ⟨rfl, hw⟩; have hw := hw.symm; subst hw)
          | (go_at_call 38; refine (HOL.out _ hrf).mono ?_; rw [DL.out]; rintro e w1 ⟨rfl, hw⟩; have hw := hw.symm; subst hw)
          | (go_at_call 39; refine (HNB.out _ hrf).mono ?_; rw [DQ.out]; rintro e w1 ⟨rfl, hw⟩; have hw := hw.symm; subst hw))
        go_ret
        exact ⟨rfl, HZ.out⟩
      have DQ := Aside0.mk (decide_eq_false hq)
      by_cases hlt : kb < kl
      · have dg := decide_eq_true hlt
        obtain rfl : r = 101253170 := by rw [← HRR.out]; rw [if_neg (fun k => hq k.2)]; rw [if_neg (fun k => hu k.1), if_pos ⟨hv, hlt⟩]
        clear HRR
        have HZ0 := Aside0.mk hrf
        have HZ := HZ0
        have GK0 := Aside0.mk True.intro
        have GH := Aside0.mk True.intro
        go_enter Tryz.func17, Tryz.ntmps17
        go_wp2_with (first
          | (go_at_call 37; refine (HPL.out _ hrf).mono ?_; rintro e w1 ⟨rfl, hw⟩; have hw := hw.symm; subst hw)
          | (go_at_call 25; refine (HK.out _).mono ?_; rintro e w1 ⟨rfl, hw⟩; have hw := hw.symm; subst hw)
          | (go_at_call 38; refine (HOL.out _ hrf).mono ?_; rw [DL.out]; rintro e w1 ⟨rfl, hw⟩; have hw := hw.symm; subst hw)
          | (go_at_call 39; refine (HNB.out _ hrf).mono ?_; rw [DQ.out]; rintro e w1 ⟨rfl, hw⟩; have hw := hw.symm; subst hw)
          | (have hgate := GK0.out; clear hgate; go_at_call 40; refine (HKB.out _ HZ0.out).mono ?_; rintro e wk0 ⟨rfl, hb⟩; have HZ1 := Aside0.mk (HZ0.out.trans (hb.mono HZ0.out.size)); have HZ := HZ1; have GK1 := Aside0.mk True.intro; clear hb GK0)
          | (have hgate := GK1.out; clear hgate; go_at_call 40; refine (HKL.out hv.2 _ HZ1.out).mono ?_; rintro e wk1 ⟨rfl, hb⟩; have HZ2 := Aside0.mk (HZ1.out.trans (hb.mono HZ1.out.size)); have HZ := HZ2; have GK2 := Aside0.mk True.intro; clear hb GK1))
        go_ret
        exact ⟨rfl, HZ.out⟩
      have dg := decide_eq_false hlt
      obtain rfl : r = 0 := by rw [← HRR.out]; rw [if_neg (fun k => hq k.2)]; rw [if_neg (fun k => hu k.1), if_neg (fun k => hlt k.2)]
      clear HRR
      have HZ0 := Aside0.mk hrf
      have HZ := HZ0
      have GK0 := Aside0.mk True.intro
      have GH := Aside0.mk True.intro
      go_enter Tryz.func17, Tryz.ntmps17
      go_wp2_with (first
        | (go_at_call 37; refine (HPL.out _ hrf).mono ?_; rintro e w1 ⟨rfl, hw⟩; have hw := hw.symm; subst hw)
        | (go_at_call 25; refine (HK.out _).mono ?_; rintro e w1 ⟨rfl, hw⟩; have hw := hw.symm; subst hw)
        | (go_at_call 38; refine (HOL.out _ hrf).mono ?_; rw [DL.out]; rintro e w1 ⟨rfl, hw⟩; have hw := hw.symm; subst hw)
        | (go_at_call 39; refine (HNB.out _ hrf).mono ?_; rw [DQ.out]; rintro e w1 ⟨rfl, hw⟩; have hw := hw.symm; subst hw)
        | (have hgate := GK0.out; clear hgate; go_at_call 40; refine (HKB.out _ HZ0.out).mono ?_; rintro e wk0 ⟨rfl, hb⟩; have HZ1 := Aside0.mk (HZ0.out.trans (hb.mono HZ0.out.size)); have HZ := HZ1; have GK1 := Aside0.mk True.intro; clear hb GK0)
        | (have hgate := GK1.out; clear hgate; go_at_call 40; refine (HKL.out hv.2 _ HZ1.out).mono ?_; rintro e wk1 ⟨rfl, hb⟩; have HZ2 := Aside0.mk (HZ1.out.trans (hb.mono HZ1.out.size)); have HZ := HZ2; have GK2 := Aside0.mk True.intro; clear hb GK1))
      go_ret
      exact ⟨rfl, HZ.out⟩
  have dh : decide ((0 : Int) < (nh : Int)) = true := decide_eq_true (by omega)
  by_cases hoh : ¬ ordR t hi
  · have DH := Aside0.mk (decide_eq_false hoh)
    have hu : ¬ (0 < nh ∧ ordR t hi) := fun k => hoh k.2
    by_cases hl0 : ¬ 0 < nl
    · have dl : decide ((0 : Int) < (nl : Int)) = false := decide_eq_false (by omega)
      have hv : ¬ (0 < nl ∧ ordR t lo) := fun k => hl0 k.1
      obtain rfl : r = 0 := by rw [← HRR.out]; rw [if_neg (fun k => by rcases k.1 with k | k; exact hu k; exact hv k), if_neg (fun k => hu k.1), if_neg (fun k => hv k.1)]
      clear HRR
      have HZ0 := Aside0.mk hrf
      have HZ := HZ0
      have GK0 := Aside0.mk True.intro
      have GH := Aside0.mk True.intro
      go_enter Tryz.func17, Tryz.ntmps17
      go_wp2_with (first
        | (go_at_call 37; refine (HPL.out _ hrf).mono ?_; rintro e w1 ⟨rfl, hw⟩; have hw := hw.symm; subst hw)
        | (go_at_call 25; refine (HK.out _).mono ?_; rintro e w1 ⟨rfl, hw⟩; have hw := hw.symm; subst hw)
        | (have hgate := GH.out; clear hgate; go_at_call 38; refine (HOH.out _ hrf).mono ?_; rw [DH.out]; rintro e w1 ⟨rfl, hw⟩; have hw := hw.symm; subst hw; clear GH))
      go_ret
      exact ⟨rfl, HZ.out⟩
    have dl : decide ((0 : Int) < (nl : Int)) = true := decide_eq_true (by omega)
    by_cases hol : ¬ ordR t lo
    · have DL := Aside0.mk (decide_eq_false hol)
      have hv : ¬ (0 < nl ∧ ordR t lo) := fun k => hol k.2
      obtain rfl : r = 0 := by rw [← HRR.out]; rw [if_neg (fun k => by rcases k.1 with k | k; exact hu k; exact hv k), if_neg (fun k => hu k.1), if_neg (fun k => hv k.1)]
      clear HRR
      have HZ0 := Aside0.mk hrf
      have HZ := HZ0
      have GK0 := Aside0.mk True.intro
      have GH := Aside0.mk True.intro
      go_enter Tryz.func17, Tryz.ntmps17
      go_wp2_with (first
        | (go_at_call 37; refine (HPL.out _ hrf).mono ?_; rintro e w1 ⟨rfl, hw⟩; have hw := hw.symm; subst hw)
        | (go_at_call 25; refine (HK.out _).mono ?_; rintro e w1 ⟨rfl, hw⟩; have hw := hw.symm; subst hw)
        | (have hgate := GH.out; clear hgate; go_at_call 38; refine (HOH.out _ hrf).mono ?_; rw [DH.out]; rintro e w1 ⟨rfl, hw⟩; have hw := hw.symm; subst hw; clear GH)
        | (go_at_call 38; refine (HOL.out _ hrf).mono ?_; rw [DL.out]; rintro e w1 ⟨rfl, hw⟩; have hw := hw.symm; subst hw))
      go_ret
      exact ⟨rfl, HZ.out⟩
    · have hol' : ordR t lo := Classical.not_not.1 hol
      have DL := Aside0.mk (decide_eq_true hol')
      have hv : 0 < nl ∧ ordR t lo := ⟨by omega, hol'⟩
      by_cases hq : nanR t b
      · have DQ := Aside0.mk (decide_eq_true hq)
        obtain rfl : r = 101253168 := by rw [← HRR.out]; rw [if_pos ⟨.inr hv, hq⟩]
        clear HRR
        have HZ0 := Aside0.mk hrf
        have HZ := HZ0
        have GK0 := Aside0.mk True.intro
        have GH := Aside0.mk True.intro
        go_enter Tryz.func17, Tryz.ntmps17
        go_wp2_with (first
          | (go_at_call 37; refine (HPL.out _ hrf).mono ?_; rintro e w1 ⟨rfl, hw⟩; have hw := hw.symm; subst hw)
          | (go_at_call 25; refine (HK.out _).mono ?_; rintro e w1 ⟨rfl, hw⟩; have hw := hw.symm; subst hw)
          | (have hgate := GH.out; clear hgate; go_at_call 38; refine (HOH.out _ hrf).mono ?_; rw [DH.out]; rintro e w1 ⟨rfl, hw⟩; have hw := hw.symm; subst hw; clear GH)
          | (go_at_call 38; refine (HOL.out _ hrf).mono ?_; rw [DL.out]; rintro e w1 ⟨rfl, hw⟩; have hw := hw.symm; subst hw)
          | (go_at_call 39; refine (HNB.out _ hrf).mono ?_; rw [DQ.out]; rintro e w1 ⟨rfl, hw⟩; have hw := hw.symm; subst hw))
        go_ret
        exact ⟨rfl, HZ.out⟩
      have DQ := Aside0.mk (decide_eq_false hq)
      by_cases hlt : kb < kl
      · have dg := decide_eq_true hlt
        obtain rfl : r = 101253170 := by rw [← HRR.out]; rw [if_neg (fun k => hq k.2)]; rw [if_neg (fun k => hu k.1), if_pos ⟨hv, hlt⟩]
        clear HRR
        have HZ0 := Aside0.mk hrf
        have HZ := HZ0
        have GK0 := Aside0.mk True.intro
        have GH := Aside0.mk True.intro
        go_enter Tryz.func17, Tryz.ntmps17
        go_wp2_with (first
          | (go_at_call 37; refine (HPL.out _ hrf).mono ?_; rintro e w1 ⟨rfl, hw⟩; have hw := hw.symm; subst hw)
          | (go_at_call 25; refine (HK.out _).mono ?_; rintro e w1 ⟨rfl, hw⟩; have hw := hw.symm; subst hw)
          | (have hgate := GH.out; clear hgate; go_at_call 38; refine (HOH.out _ hrf).mono ?_; rw [DH.out]; rintro e w1 ⟨rfl, hw⟩; have hw := hw.symm; subst hw; clear GH)
          | (go_at_call 38; refine (HOL.out _ hrf).mono ?_; rw [DL.out]; rintro e w1 ⟨rfl, hw⟩; have hw := hw.symm; subst hw)
          | (go_at_call 39; refine (HNB.out _ hrf).mono ?_; rw [DQ.out]; rintro e w1 ⟨rfl, hw⟩; have hw := hw.symm; subst hw)
          | (have hgate := GK0.out; clear hgate; go_at_call 40; refine (HKB.out _ HZ0.out).mono ?_; rintro e wk0 ⟨rfl, hb⟩; have HZ1 := Aside0.mk (HZ0.out.trans (hb.mono HZ0.out.size)); have HZ := HZ1; have GK1 := Aside0.mk True.intro; clear hb GK0)
          | (have hgate := GK1.out; clear hgate; go_at_call 40; refine (HKL.out hv.2 _ HZ1.out).mono ?_; rintro e wk1 ⟨rfl, hb⟩; have HZ2 := Aside0.mk (HZ1.out.trans (hb.mono HZ1.out.size)); have HZ := HZ2; have GK2 := Aside0.mk True.intro; clear hb GK1))
        go_ret
        exact ⟨rfl, HZ.out⟩
      have dg := decide_eq_false hlt
      obtain rfl : r = 0 := by rw [← HRR.out]; rw [if_neg (fun k => hq k.2)]; rw [if_neg (fun k => hu k.1), if_neg (fun k => hlt k.2)]
      clear HRR
      have HZ0 := Aside0.mk hrf
      have HZ := HZ0
      have GK0 := Aside0.mk True.intro
      have GH := Aside0.mk True.intro
      go_enter Tryz.func17, Tryz.ntmps17
      go_wp2_with (first
        | (go_at_call 37; refine (HPL.out _ hrf).mono ?_; rintro e w1 ⟨rfl, hw⟩; have hw := hw.symm; subst hw)
        | (go_at_call 25; refine (HK.out _).mono ?_; rintro e w1 ⟨rfl, hw⟩; have hw := hw.symm; subst hw)
        | (have hgate := GH.out; clear hgate; go_at_call 38; refine (HOH.out _ hrf).mono ?_; rw [DH.out]; rintro e w1 ⟨rfl, hw⟩; have hw := hw.symm; subst hw; clear GH)
        | (go_at_call 38; refine (HOL.out _ hrf).mono ?_; rw [DL.out]; rintro e w1 ⟨rfl, hw⟩; have hw := hw.symm; subst hw)
        | (go_at_call 39; refine (HNB.out _ hrf).mono ?_; rw [DQ.out]; rintro e w1 ⟨rfl, hw⟩; have hw := hw.symm; subst hw)
        | (have hgate := GK0.out; clear hgate; go_at_call 40; refine (HKB.out _ HZ0.out).mono ?_; rintro e wk0 ⟨rfl, hb⟩; have HZ1 := Aside0.mk (HZ0.out.trans (hb.mono HZ0.out.size)); have HZ := HZ1; have GK1 := Aside0.mk True.intro; clear hb GK0)
        | (have hgate := GK1.out; clear hgate; go_at_call 40; refine (HKL.out hv.2 _ HZ1.out).mono ?_; rintro e wk1 ⟨rfl, hb⟩; have HZ2 := Aside0.mk (HZ1.out.trans (hb.mono HZ1.out.size)); have HZ := HZ2; have GK2 := Aside0.mk True.intro; clear hb GK1))
      go_ret
      exact ⟨rfl, HZ.out⟩
  · have hoh' : ordR t hi := Classical.not_not.1 hoh
    have DH := Aside0.mk (decide_eq_true hoh')
    have hu : 0 < nh ∧ ordR t hi := ⟨by omega, hoh'⟩
    by_cases hl0 : ¬ 0 < nl
    · have dl : decide ((0 : Int) < (nl : Int)) = false := decide_eq_false (by omega)
      have hv : ¬ (0 < nl ∧ ordR t lo) := fun k => hl0 k.1
      by_cases hq : nanR t b
      · have DQ := Aside0.mk (decide_eq_true hq)
        obtain rfl : r = 101253168 := by rw [← HRR.out]; rw [if_pos ⟨.inl hu, hq⟩]
        clear HRR
        have HZ0 := Aside0.mk hrf
        have HZ := HZ0
        have GK0 := Aside0.mk True.intro
        have GH := Aside0.mk True.intro
        go_enter Tryz.func17, Tryz.ntmps17
        go_wp2_with (first
          | (go_at_call 37; refine (HPL.out _ hrf).mono ?_; rintro e w1 ⟨rfl, hw⟩; have hw := hw.symm; subst hw)
          | (go_at_call 25; refine (HK.out _).mono ?_; rintro e w1 ⟨rfl, hw⟩; have hw := hw.symm; subst hw)
          | (have hgate := GH.out; clear hgate; go_at_call 38; refine (HOH.out _ hrf).mono ?_; rw [DH.out]; rintro e w1 ⟨rfl, hw⟩; have hw := hw.symm; subst hw; clear GH)
          | (go_at_call 39; refine (HNB.out _ hrf).mono ?_; rw [DQ.out]; rintro e w1 ⟨rfl, hw⟩; have hw := hw.symm; subst hw))
        go_ret
        exact ⟨rfl, HZ.out⟩
      have DQ := Aside0.mk (decide_eq_false hq)
      by_cases hgt : kh < kb
      · have dg := decide_eq_true hgt
        obtain rfl : r = 101253169 := by rw [← HRR.out]; rw [if_neg (fun k => hq k.2)]; rw [if_pos ⟨hu, hgt⟩]
        clear HRR
        have HZ0 := Aside0.mk hrf
        have HZ := HZ0
        have GK0 := Aside0.mk True.intro
        have GH := Aside0.mk True.intro
        go_enter Tryz.func17, Tryz.ntmps17
        go_wp2_with (first
          | (go_at_call 37; refine (HPL.out _ hrf).mono ?_; rintro e w1 ⟨rfl, hw⟩; have hw := hw.symm; subst hw)
          | (go_at_call 25; refine (HK.out _).mono ?_; rintro e w1 ⟨rfl, hw⟩; have hw := hw.symm; subst hw)
          | (have hgate := GH.out; clear hgate; go_at_call 38; refine (HOH.out _ hrf).mono ?_; rw [DH.out]; rintro e w1 ⟨rfl, hw⟩; have hw := hw.symm; subst hw; clear GH)
          | (go_at_call 39; refine (HNB.out _ hrf).mono ?_; rw [DQ.out]; rintro e w1 ⟨rfl, hw⟩; have hw := hw.symm; subst hw)
          | (have hgate := GK0.out; clear hgate; go_at_call 40; refine (HKB.out _ HZ0.out).mono ?_; rintro e wk0 ⟨rfl, hb⟩; have HZ1 := Aside0.mk (HZ0.out.trans (hb.mono HZ0.out.size)); have HZ := HZ1; have GK1 := Aside0.mk True.intro; clear hb GK0)
          | (have hgate := GK1.out; clear hgate; go_at_call 40; refine (HKH.out hu.2 _ HZ1.out).mono ?_; rintro e wk1 ⟨rfl, hb⟩; have HZ2 := Aside0.mk (HZ1.out.trans (hb.mono HZ1.out.size)); have HZ := HZ2; have GK2 := Aside0.mk True.intro; clear hb GK1))
        go_ret
        exact ⟨rfl, HZ.out⟩
      have dg := decide_eq_false hgt
      obtain rfl : r = 0 := by rw [← HRR.out]; rw [if_neg (fun k => hq k.2)]; rw [if_neg (fun k => hgt k.2), if_neg (fun k => hv k.1)]
      clear HRR
      have HZ0 := Aside0.mk hrf
      have HZ := HZ0
      have GK0 := Aside0.mk True.intro
      have GH := Aside0.mk True.intro
      go_enter Tryz.func17, Tryz.ntmps17
      go_wp2_with (first
        | (go_at_call 37; refine (HPL.out _ hrf).mono ?_; rintro e w1 ⟨rfl, hw⟩; have hw := hw.symm; subst hw)
        | (go_at_call 25; refine (HK.out _).mono ?_; rintro e w1 ⟨rfl, hw⟩; have hw := hw.symm; subst hw)
        | (have hgate := GH.out; clear hgate; go_at_call 38; refine (HOH.out _ hrf).mono ?_; rw [DH.out]; rintro e w1 ⟨rfl, hw⟩; have hw := hw.symm; subst hw; clear GH)
        | (go_at_call 39; refine (HNB.out _ hrf).mono ?_; rw [DQ.out]; rintro e w1 ⟨rfl, hw⟩; have hw := hw.symm; subst hw)
        | (have hgate := GK0.out; clear hgate; go_at_call 40; refine (HKB.out _ HZ0.out).mono ?_; rintro e wk0 ⟨rfl, hb⟩; have HZ1 := Aside0.mk (HZ0.out.trans (hb.mono HZ0.out.size)); have HZ := HZ1; have GK1 := Aside0.mk True.intro; clear hb GK0)
        | (have hgate := GK1.out; clear hgate; go_at_call 40; refine (HKH.out hu.2 _ HZ1.out).mono ?_; rintro e wk1 ⟨rfl, hb⟩; have HZ2 := Aside0.mk (HZ1.out.trans (hb.mono HZ1.out.size)); have HZ := HZ2; have GK2 := Aside0.mk True.intro; clear hb GK1))
      go_ret
      exact ⟨rfl, HZ.out⟩
    have dl : decide ((0 : Int) < (nl : Int)) = true := decide_eq_true (by omega)
    by_cases hol : ¬ ordR t lo
    · have DL := Aside0.mk (decide_eq_false hol)
      have hv : ¬ (0 < nl ∧ ordR t lo) := fun k => hol k.2
      by_cases hq : nanR t b
      · have DQ := Aside0.mk (decide_eq_true hq)
        obtain rfl : r = 101253168 := by rw [← HRR.out]; rw [if_pos ⟨.inl hu, hq⟩]
        clear HRR
        have HZ0 := Aside0.mk hrf
        have HZ := HZ0
        have GK0 := Aside0.mk True.intro
        have GH := Aside0.mk True.intro
        go_enter Tryz.func17, Tryz.ntmps17
        go_wp2_with (first
          | (go_at_call 37; refine (HPL.out _ hrf).mono ?_; rintro e w1 ⟨rfl, hw⟩; have hw := hw.symm; subst hw)
          | (go_at_call 25; refine (HK.out _).mono ?_; rintro e w1 ⟨rfl, hw⟩; have hw := hw.symm; subst hw)
          | (have hgate := GH.out; clear hgate; go_at_call 38; refine (HOH.out _ hrf).mono ?_; rw [DH.out]; rintro e w1 ⟨rfl, hw⟩; have hw := hw.symm; subst hw; clear GH)
          | (go_at_call 38; refine (HOL.out _ hrf).mono ?_; rw [DL.out]; rintro e w1 ⟨rfl, hw⟩; have hw := hw.symm; subst hw)
          | (go_at_call 39; refine (HNB.out _ hrf).mono ?_; rw [DQ.out]; rintro e w1 ⟨rfl, hw⟩; have hw := hw.symm; subst hw))
        go_ret
        exact ⟨rfl, HZ.out⟩
      have DQ := Aside0.mk (decide_eq_false hq)
      by_cases hgt : kh < kb
      · have dg := decide_eq_true hgt
        obtain rfl : r = 101253169 := by rw [← HRR.out]; rw [if_neg (fun k => hq k.2)]; rw [if_pos ⟨hu, hgt⟩]
        clear HRR
        have HZ0 := Aside0.mk hrf
        have HZ := HZ0
        have GK0 := Aside0.mk True.intro
        have GH := Aside0.mk True.intro
        go_enter Tryz.func17, Tryz.ntmps17
        go_wp2_with (first
          | (go_at_call 37; refine (HPL.out _ hrf).mono ?_; rintro e w1 ⟨rfl, hw⟩; have hw := hw.symm; subst hw)
          | (go_at_call 25; refine (HK.out _).mono ?_; rintro e w1 ⟨rfl, hw⟩; have hw := hw.symm; subst hw)
          | (have hgate := GH.out; clear hgate; go_at_call 38; refine (HOH.out _ hrf).mono ?_; rw [DH.out]; rintro e w1 ⟨rfl, hw⟩; have hw := hw.symm; subst hw; clear GH)
          | (go_at_call 38; refine (HOL.out _ hrf).mono ?_; rw [DL.out]; rintro e w1 ⟨rfl, hw⟩; have hw := hw.symm; subst hw)
          | (go_at_call 39; refine (HNB.out _ hrf).mono ?_; rw [DQ.out]; rintro e w1 ⟨rfl, hw⟩; have hw := hw.symm; subst hw)
          | (have hgate := GK0.out; clear hgate; go_at_call 40; refine (HKB.out _ HZ0.out).mono ?_; rintro e wk0 ⟨rfl, hb⟩; have HZ1 := Aside0.mk (HZ0.out.trans (hb.mono HZ0.out.size)); have HZ := HZ1; have GK1 := Aside0.mk True.intro; clear hb GK0)
          | (have hgate := GK1.out; clear hgate; go_at_call 40; refine (HKH.out hu.2 _ HZ1.out).mono ?_; rintro e wk1 ⟨rfl, hb⟩; have HZ2 := Aside0.mk (HZ1.out.trans (hb.mono HZ1.out.size)); have HZ := HZ2; have GK2 := Aside0.mk True.intro; clear hb GK1))
        go_ret
        exact ⟨rfl, HZ.out⟩
      have dg := decide_eq_false hgt
      obtain rfl : r = 0 := by rw [← HRR.out]; rw [if_neg (fun k => hq k.2)]; rw [if_neg (fun k => hgt k.2), if_neg (fun k => hv k.1)]
      clear HRR
      have HZ0 := Aside0.mk hrf
      have HZ := HZ0
      have GK0 := Aside0.mk True.intro
      have GH := Aside0.mk True.intro
      go_enter Tryz.func17, Tryz.ntmps17
      go_wp2_with (first
        | (go_at_call 37; refine (HPL.out _ hrf).mono ?_; rintro e w1 ⟨rfl, hw⟩; have hw := hw.symm; subst hw)
        | (go_at_call 25; refine (HK.out _).mono ?_; rintro e w1 ⟨rfl, hw⟩; have hw := hw.symm; subst hw)
        | (have hgate := GH.out; clear hgate; go_at_call 38; refine (HOH.out _ hrf).mono ?_; rw [DH.out]; rintro e w1 ⟨rfl, hw⟩; have hw := hw.symm; subst hw; clear GH)
        | (go_at_call 38; refine (HOL.out _ hrf).mono ?_; rw [DL.out]; rintro e w1 ⟨rfl, hw⟩; have hw := hw.symm; subst hw)
        | (go_at_call 39; refine (HNB.out _ hrf).mono ?_; rw [DQ.out]; rintro e w1 ⟨rfl, hw⟩; have hw := hw.symm; subst hw)
        | (have hgate := GK0.out; clear hgate; go_at_call 40; refine (HKB.out _ HZ0.out).mono ?_; rintro e wk0 ⟨rfl, hb⟩; have HZ1 := Aside0.mk (HZ0.out.trans (hb.mono HZ0.out.size)); have HZ := HZ1; have GK1 := Aside0.mk True.intro; clear hb GK0)
        | (have hgate := GK1.out; clear hgate; go_at_call 40; refine (HKH.out hu.2 _ HZ1.out).mono ?_; rintro e wk1 ⟨rfl, hb⟩; have HZ2 := Aside0.mk (HZ1.out.trans (hb.mono HZ1.out.size)); have HZ := HZ2; have GK2 := Aside0.mk True.intro; clear hb GK1))
      go_ret
      exact ⟨rfl, HZ.out⟩
    · have hol' : ordR t lo := Classical.not_not.1 hol
      have DL := Aside0.mk (decide_eq_true hol')
      have hv : 0 < nl ∧ ordR t lo := ⟨by omega, hol'⟩
      by_cases hq : nanR t b
      · have DQ := Aside0.mk (decide_eq_true hq)
        obtain rfl : r = 101253168 := by rw [← HRR.out]; rw [if_pos ⟨.inl hu, hq⟩]
        clear HRR
        have HZ0 := Aside0.mk hrf
        have HZ := HZ0
        have GK0 := Aside0.mk True.intro
        have GH := Aside0.mk True.intro
        go_enter Tryz.func17, Tryz.ntmps17
        go_wp2_with (first
          | (go_at_call 37; refine (HPL.out _ hrf).mono ?_; rintro e w1 ⟨rfl, hw⟩; have hw := hw.symm; subst hw)
          | (go_at_call 25; refine (HK.out _).mono ?_; rintro e w1 ⟨rfl, hw⟩; have hw := hw.symm; subst hw)
          | (have hgate := GH.out; clear hgate; go_at_call 38; refine (HOH.out _ hrf).mono ?_; rw [DH.out]; rintro e w1 ⟨rfl, hw⟩; have hw := hw.symm; subst hw; clear GH)
          | (go_at_call 38; refine (HOL.out _ hrf).mono ?_; rw [DL.out]; rintro e w1 ⟨rfl, hw⟩; have hw := hw.symm; subst hw)
          | (go_at_call 39; refine (HNB.out _ hrf).mono ?_; rw [DQ.out]; rintro e w1 ⟨rfl, hw⟩; have hw := hw.symm; subst hw))
        go_ret
        exact ⟨rfl, HZ.out⟩
      have DQ := Aside0.mk (decide_eq_false hq)
      by_cases hgt : kh < kb
      · have dg := decide_eq_true hgt
        obtain rfl : r = 101253169 := by rw [← HRR.out]; rw [if_neg (fun k => hq k.2)]; rw [if_pos ⟨hu, hgt⟩]
        clear HRR
        have HZ0 := Aside0.mk hrf
        have HZ := HZ0
        have GK0 := Aside0.mk True.intro
        have GH := Aside0.mk True.intro
        go_enter Tryz.func17, Tryz.ntmps17
        go_wp2_with (first
          | (go_at_call 37; refine (HPL.out _ hrf).mono ?_; rintro e w1 ⟨rfl, hw⟩; have hw := hw.symm; subst hw)
          | (go_at_call 25; refine (HK.out _).mono ?_; rintro e w1 ⟨rfl, hw⟩; have hw := hw.symm; subst hw)
          | (have hgate := GH.out; clear hgate; go_at_call 38; refine (HOH.out _ hrf).mono ?_; rw [DH.out]; rintro e w1 ⟨rfl, hw⟩; have hw := hw.symm; subst hw; clear GH)
          | (go_at_call 38; refine (HOL.out _ hrf).mono ?_; rw [DL.out]; rintro e w1 ⟨rfl, hw⟩; have hw := hw.symm; subst hw)
          | (go_at_call 39; refine (HNB.out _ hrf).mono ?_; rw [DQ.out]; rintro e w1 ⟨rfl, hw⟩; have hw := hw.symm; subst hw)
          | (have hgate := GK0.out; clear hgate; go_at_call 40; refine (HKB.out _ HZ0.out).mono ?_; rintro e wk0 ⟨rfl, hb⟩; have HZ1 := Aside0.mk (HZ0.out.trans (hb.mono HZ0.out.size)); have HZ := HZ1; have GK1 := Aside0.mk True.intro; clear hb GK0)
          | (have hgate := GK1.out; clear hgate; go_at_call 40; refine (HKH.out hu.2 _ HZ1.out).mono ?_; rintro e wk1 ⟨rfl, hb⟩; have HZ2 := Aside0.mk (HZ1.out.trans (hb.mono HZ1.out.size)); have HZ := HZ2; have GK2 := Aside0.mk True.intro; clear hb GK1))
        go_ret
        exact ⟨rfl, HZ.out⟩
      have dg := decide_eq_false hgt
      by_cases hlt : kb < kl
      · have dg2 := decide_eq_true hlt
        obtain rfl : r = 101253170 := by rw [← HRR.out]; rw [if_neg (fun k => hq k.2)]; rw [if_neg (fun k => hgt k.2), if_pos ⟨hv, hlt⟩]
        clear HRR
        have HZ0 := Aside0.mk hrf
        have HZ := HZ0
        have GK0 := Aside0.mk True.intro
        have GH := Aside0.mk True.intro
        go_enter Tryz.func17, Tryz.ntmps17
        go_wp2_with (first
          | (go_at_call 37; refine (HPL.out _ hrf).mono ?_; rintro e w1 ⟨rfl, hw⟩; have hw := hw.symm; subst hw)
          | (go_at_call 25; refine (HK.out _).mono ?_; rintro e w1 ⟨rfl, hw⟩; have hw := hw.symm; subst hw)
          | (have hgate := GH.out; clear hgate; go_at_call 38; refine (HOH.out _ hrf).mono ?_; rw [DH.out]; rintro e w1 ⟨rfl, hw⟩; have hw := hw.symm; subst hw; clear GH)
          | (go_at_call 38; refine (HOL.out _ hrf).mono ?_; rw [DL.out]; rintro e w1 ⟨rfl, hw⟩; have hw := hw.symm; subst hw)
          | (go_at_call 39; refine (HNB.out _ hrf).mono ?_; rw [DQ.out]; rintro e w1 ⟨rfl, hw⟩; have hw := hw.symm; subst hw)
          | (have hgate := GK0.out; clear hgate; go_at_call 40; refine (HKB.out _ HZ0.out).mono ?_; rintro e wk0 ⟨rfl, hb⟩; have HZ1 := Aside0.mk (HZ0.out.trans (hb.mono HZ0.out.size)); have HZ := HZ1; have GK1 := Aside0.mk True.intro; clear hb GK0)
          | (have hgate := GK1.out; clear hgate; go_at_call 40; refine (HKH.out hu.2 _ HZ1.out).mono ?_; rintro e wk1 ⟨rfl, hb⟩; have HZ2 := Aside0.mk (HZ1.out.trans (hb.mono HZ1.out.size)); have HZ := HZ2; have GK2 := Aside0.mk True.intro; clear hb GK1)
          | (have hgate := GK2.out; clear hgate; go_at_call 40; refine (HKB.out _ HZ2.out).mono ?_; rintro e wk2 ⟨rfl, hb⟩; have HZ3 := Aside0.mk (HZ2.out.trans (hb.mono HZ2.out.size)); have HZ := HZ3; have GK3 := Aside0.mk True.intro; clear hb GK2)
          | (have hgate := GK3.out; clear hgate; go_at_call 40; refine (HKL.out hv.2 _ HZ3.out).mono ?_; rintro e wk3 ⟨rfl, hb⟩; have HZ4 := Aside0.mk (HZ3.out.trans (hb.mono HZ3.out.size)); have HZ := HZ4; have GK4 := Aside0.mk True.intro; clear hb GK3))
        go_ret
        exact ⟨rfl, HZ.out⟩
      have dg2 := decide_eq_false hlt
      obtain rfl : r = 0 := by rw [← HRR.out]; rw [if_neg (fun k => hq k.2)]; rw [if_neg (fun k => hgt k.2), if_neg (fun k => hlt k.2)]
      clear HRR
      have HZ0 := Aside0.mk hrf
      have HZ := HZ0
      have GK0 := Aside0.mk True.intro
      have GH := Aside0.mk True.intro
      go_enter Tryz.func17, Tryz.ntmps17
      go_wp2_with (first
        | (go_at_call 37; refine (HPL.out _ hrf).mono ?_; rintro e w1 ⟨rfl, hw⟩; have hw := hw.symm; subst hw)
        | (go_at_call 25; refine (HK.out _).mono ?_; rintro e w1 ⟨rfl, hw⟩; have hw := hw.symm; subst hw)
        | (have hgate := GH.out; clear hgate; go_at_call 38; refine (HOH.out _ hrf).mono ?_; rw [DH.out]; rintro e w1 ⟨rfl, hw⟩; have hw := hw.symm; subst hw; clear GH)
        | (go_at_call 38; refine (HOL.out _ hrf).mono ?_; rw [DL.out]; rintro e w1 ⟨rfl, hw⟩; have hw := hw.symm; subst hw)
        | (go_at_call 39; refine (HNB.out _ hrf).mono ?_; rw [DQ.out]; rintro e w1 ⟨rfl, hw⟩; have hw := hw.symm; subst hw)
        | (have hgate := GK0.out; clear hgate; go_at_call 40; refine (HKB.out _ HZ0.out).mono ?_; rintro e wk0 ⟨rfl, hb⟩; have HZ1 := Aside0.mk (HZ0.out.trans (hb.mono HZ0.out.size)); have HZ := HZ1; have GK1 := Aside0.mk True.intro; clear hb GK0)
        | (have hgate := GK1.out; clear hgate; go_at_call 40; refine (HKH.out hu.2 _ HZ1.out).mono ?_; rintro e wk1 ⟨rfl, hb⟩; have HZ2 := Aside0.mk (HZ1.out.trans (hb.mono HZ1.out.size)); have HZ := HZ2; have GK2 := Aside0.mk True.intro; clear hb GK1)
        | (have hgate := GK2.out; clear hgate; go_at_call 40; refine (HKB.out _ HZ2.out).mono ?_; rintro e wk2 ⟨rfl, hb⟩; have HZ3 := Aside0.mk (HZ2.out.trans (hb.mono HZ2.out.size)); have HZ := HZ3; have GK3 := Aside0.mk True.intro; clear hb GK2)
        | (have hgate := GK3.out; clear hgate; go_at_call 40; refine (HKL.out hv.2 _ HZ3.out).mono ?_; rintro e wk3 ⟨rfl, hb⟩; have HZ4 := Aside0.mk (HZ3.out.trans (hb.mono HZ3.out.size)); have HZ := HZ4; have GK4 := Aside0.mk True.intro; clear hb GK3))
      go_ret
      exact ⟨rfl, HZ.out⟩
end Go.Proofs.YtcgcghldgomelaaGreatDoor.Mp
