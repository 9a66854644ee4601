/- TypesBounds, walked. -/
import Derived.Test.YtcgcghldgomelaaGreatDoorYf
namespace Go.Proofs.YtcgcghldgomelaaGreatDoor.Mp
open Go.RowKit Go.Shelf Go.Proofs.YtcgcghldgomelaaGreatDoor.Rng Go.Proofs.YtcgcghldgomelaaGreatDoorW.PrintWords Go.Proofs.YtcgcghldgomelaaGreatDoorW.PrintMore Go.Proofs.YtcgcghldgomelaaGreatDoorW.PrintLast

theorem cmp3_pos {x y : Int} : 0 < cmp3 x y ↔ y < x := by
  unfold cmp3
  split
  · constructor <;> intro h <;> omega
  · split <;> constructor <;> intro h <;> omega
theorem cmp3_neg {x y : Int} : cmp3 x y < 0 ↔ x < y := by
  unfold cmp3
  split
  · constructor <;> intro h <;> omega
  · split <;> constructor <;> intro h <;> omega
/-- What stands in order has at least a byte. -/
theorem ord_len {t : Int} {b : List Int} (h : ordR t b) : 0 < b.length := by
  have h1 := (plainC_0 h.1).2.2.1 h.2.1
  have h2 := (plainC_0 h.1).1
  have h3 := siz_of t
  have h4 := h.2.1
  have h5 := form_cases t
  omega
/-- The plain law of the bounds. -/
theorem bounds_law (t : Int) {b low high : List Int} (hb : Byt b) (hl : Byt low) (hh : Byt high) (h1 : (cmpC t b low).2 = true) (h2 : (cmpC t b high).2 = true) :
    (decide (chkC t b low high = 0) = (decide (0 ≤ (cmpC t b low).1) && decide ((cmpC t b high).1 ≤ 0))) ∧ (decide (chkC t b [] high = 0x06090031) = decide (0 < (cmpC t b high).1)) ∧ (decide (chkC t b low [] = 0x06090032) = decide ((cmpC t b low).1 < 0)) := by
  have e1 := cmp_R t hb hl
  have e2 := cmp_R t hb hh
  have hob : ordR t b ∧ ordR t low := by
    by_cases h : ordR t b ∧ ordR t low
    · exact h
    · rw [e1, if_neg h] at h1
      cases h1
  have hoh : ordR t b ∧ ordR t high := by
    by_cases h : ordR t b ∧ ordR t high
    · exact h
    · rw [e2, if_neg h] at h2
      cases h2
  rw [if_pos hob] at e1
  rw [if_pos hoh] at e2
  have p := hob.1.1
  have h6 := hob.1.2.1
  have hn := hob.1.2.2
  have ll := ord_len hob.2
  have lh := ord_len hoh.2
  rw [chk_R t hb hl hh, chk_R t hb (fun x hx => by simp at hx) hh, chk_R t hb hl (fun x hx => by simp at hx)]
  have n0 : ¬ (plainC t b ≠ 0 ∨ knd t = 6) := by rintro (h | h); exact h p; exact h6 h
  have n1 : ∀ Q : Prop, ¬ (Q ∧ nanR t b) := fun Q h => hn h.2
  have z1 : ∀ Q : Prop, ¬ ((0 < ([] : List Int).length ∧ ordR t []) ∧ Q) := fun Q h => by have := h.1.1; simp at this
  unfold chkR
  rw [if_neg n0, if_neg n0, if_neg n0, if_neg (n1 _), if_neg (n1 _), if_neg (n1 _), if_neg (z1 _), if_neg (z1 _), e1, e2]
  simp only
  have a1 := cmp3_neg (x := keyR t b) (y := keyR t low)
  have a2 := cmp3_pos (x := keyR t b) (y := keyR t high)
  refine ⟨?_, ?_, ?_⟩
  · by_cases c1 : keyR t high < keyR t b
    · rw [if_pos ⟨⟨lh, hoh.2⟩, c1⟩]
      have : ¬ cmp3 (keyR t b) (keyR t high) ≤ 0 := by have := a2.2 c1; omega
      simp [this]
    · rw [if_neg (fun h => c1 h.2)]
      have d1 : cmp3 (keyR t b) (keyR t high) ≤ 0 := Int.not_lt.1 (fun h => c1 (a2.1 h))
      by_cases c2 : keyR t b < keyR t low
      · rw [if_pos ⟨⟨ll, hob.2⟩, c2⟩]
        have : ¬ 0 ≤ cmp3 (keyR t b) (keyR t low) := by have := a1.2 c2; omega
        simp [this]
      · rw [if_neg (fun h => c2 h.2)]
        have d2 : 0 ≤ cmp3 (keyR t b) (keyR t low) := Int.not_lt.1 (fun h => c2 (a1.1 h))
        simp [d1, d2]
  · by_cases c1 : keyR t high < keyR t b
    · rw [if_pos ⟨⟨lh, hoh.2⟩, c1⟩]
      simp [a2.2 c1]
    · rw [if_neg (fun h => c1 h.2)]
      have : ¬ 0 < cmp3 (keyR t b) (keyR t high) := fun h => c1 (a2.1 h)
      simp [this]
  · by_cases c2 : keyR t b < keyR t low
    · rw [if_pos ⟨⟨ll, hob.2⟩, c2⟩]
      simp [a1.2 c2]
    · rw [if_neg (fun h => c2 h.2)]
      have : ¬ cmp3 (keyR t b) (keyR t low) < 0 := fun h => c2 (a1.1 h)
      simp [this]
set_option maxRecDepth 100000 in
set_option maxHeartbeats 8000000 in
theorem bounds_any (t : Int) (ht : 0 ≤ t ∧ t < 256) (A : Option Addr) (c : Nat) (b : List Int) (L : Option Addr) (cl : Nat) (low : List Int) (U : Option Addr) (cu : Nat) (high : List Int) (w : World) (h : Tbl w) (hT : Tabs w) (ha : Arg w A c b) (hl : Arg w L cl low) (hh : Arg w U cu high) :
    Calls Tryz.prog 9 #[.int .u8 t, .slice A b.length c, .slice L low.length cl, .slice U high.length cu] w fun e w' => e = .returned (.bool true) ∧ Below w.heap.size w w' := by
  have hrf : Below w.heap.size w w := Below.refl _ _
  have HW := Aside0.mk fun W (hW : Below w.heap.size w W) => works01_any W (hT.below hW) (h.below hW)
  have HCL := Aside0.mk fun W (hW : Below w.heap.size w W) => compare_any t ht A c b L cl low W (h.below hW) (ha.below hW).rd ha.byt ha.le ha.cap (hl.below hW).rd hl.byt hl.le hl.cap
  have HCH := Aside0.mk fun W (hW : Below w.heap.size w W) => compare_any t ht A c b U cu high W (h.below hW) (ha.below hW).rd ha.byt ha.le ha.cap (hh.below hW).rd hh.byt hh.le hh.cap
  have HK1 := Aside0.mk fun W (hW : Below w.heap.size w W) => check_any t ht A c b L cl low U cu high W (h.below hW) (ha.below hW) (hl.below hW) (hh.below hW)
  have HK2 := Aside0.mk fun W (hW : Below w.heap.size w W) => check_any t ht A c b none 0 [] U cu high W (h.below hW) (ha.below hW) (arg_nil W) (hh.below hW)
  have HK3 := Aside0.mk fun W (hW : Below w.heap.size w W) => check_any t ht A c b L cl low none 0 [] W (h.below hW) (ha.below hW) (hl.below hW) (arg_nil W)
  have HLW := Aside0.mk (bounds_law t ha.byt hl.byt hh.byt)
  generalize cmpC t b low = r1 at *
  generalize cmpC t b high = r2 at *
  generalize chkC t b low high = k1 at *
  generalize chkC t b [] high = k2 at *
  generalize chkC t b low [] = k3 at *
  obtain ⟨x, ok⟩ := r1
  obtain ⟨y, is⟩ := r2
  generalize b.length = nb at *
  generalize low.length = nl at *
  generalize high.length = nh at *
  clear ha hl hh h hT
  have G0 := Aside0.mk True.intro
  have G1 := Aside0.mk True.intro
  have G2 := Aside0.mk True.intro
  by_cases h1 : (8 : Int) < nb
  · have d1 := decide_eq_true h1
    go_enter Tryz.func9, Tryz.ntmps9
    go_wp2_with (go_at_call 14; refine (HW.out _ hrf).mono ?_; rintro e w1 ⟨rfl, hb1⟩; have HB1 := Aside0.mk hb1; clear hb1)
    go_ret
    exact ⟨rfl, HB1.out⟩
  have d1 := decide_eq_false h1
  by_cases h2 : (8 : Int) < nl
  · have d2 := decide_eq_true h2
    go_enter Tryz.func9, Tryz.ntmps9
    go_wp2_with (go_at_call 14; refine (HW.out _ hrf).mono ?_; rintro e w1 ⟨rfl, hb1⟩; have HB1 := Aside0.mk hb1; clear hb1)
    go_ret
    exact ⟨rfl, HB1.out⟩
  have d2 := decide_eq_false h2
  by_cases h3 : (8 : Int) < nh
  · have d3 := decide_eq_true h3
    go_enter Tryz.func9, Tryz.ntmps9
    go_wp2_with (go_at_call 14; refine (HW.out _ hrf).mono ?_; rintro e w1 ⟨rfl, hb1⟩; have HB1 := Aside0.mk hb1; clear hb1)
    go_ret
    exact ⟨rfl, HB1.out⟩
  have d3 := decide_eq_false h3
  cases ok with
  | false =>
    go_enter Tryz.func9, Tryz.ntmps9
    go_wp2_with (first
      | (have hg := G0.out; clear hg; go_at_call 18; refine (HCL.out _ hrf).mono ?_; rintro e w1 ⟨rfl, hb1⟩; have HB1 := Aside0.mk hb1; clear hb1 G0)
      | (go_at_call 18; refine (HCH.out _ HB1.out).mono ?_; rintro e w2 ⟨rfl, hb2⟩; have HB2 := Aside0.mk (HB1.out.trans (hb2.mono HB1.out.size)); clear hb2)
      | (go_at_call 14; refine (HW.out _ HB2.out).mono ?_; rintro e w3 ⟨rfl, hb3⟩; have HB3 := Aside0.mk (HB2.out.trans (hb3.mono HB2.out.size)); clear hb3))
    go_ret
    exact ⟨rfl, HB3.out⟩
  | true =>
    cases is with
    | false =>
      go_enter Tryz.func9, Tryz.ntmps9
      go_wp2_with (first
        | (have hg := G0.out; clear hg; go_at_call 18; refine (HCL.out _ hrf).mono ?_; rintro e w1 ⟨rfl, hb1⟩; have HB1 := Aside0.mk hb1; clear hb1 G0)
        | (go_at_call 18; refine (HCH.out _ HB1.out).mono ?_; rintro e w2 ⟨rfl, hb2⟩; have HB2 := Aside0.mk (HB1.out.trans (hb2.mono HB1.out.size)); clear hb2)
        | (go_at_call 14; refine (HW.out _ HB2.out).mono ?_; rintro e w3 ⟨rfl, hb3⟩; have HB3 := Aside0.mk (HB2.out.trans (hb3.mono HB2.out.size)); clear hb3))
      go_ret
      exact ⟨rfl, HB3.out⟩
    | true =>
      obtain ⟨q1, q2, q3⟩ := HLW.out rfl rfl
      clear HLW
      simp only at q1 q2 q3
      have hx : (decide (0 ≤ x) = true ∧ decide (x < 0) = false) ∨ (decide (0 ≤ x) = false ∧ decide (x < 0) = true) := by
        by_cases h : 0 ≤ x
        · exact .inl ⟨decide_eq_true h, decide_eq_false (by omega)⟩
        · exact .inr ⟨decide_eq_false h, decide_eq_true (by omega)⟩
      have hy : (decide (y ≤ 0) = true ∧ decide (0 < y) = false) ∨ (decide (y ≤ 0) = false ∧ decide (0 < y) = true) := by
        by_cases h : y ≤ 0
        · exact .inl ⟨decide_eq_true h, decide_eq_false (by omega)⟩
        · exact .inr ⟨decide_eq_false h, decide_eq_true (by omega)⟩
      rcases hx with ⟨dx, dx2⟩ | ⟨dx, dx2⟩ <;> rcases hy with ⟨dy, dy2⟩ | ⟨dy, dy2⟩
      all_goals
        rw [dx, dy] at q1
        rw [dy2] at q2
        rw [dx2] at q3
        simp only [Bool.and_true, Bool.and_false, decide_eq_true_eq, decide_eq_false_iff_not] at q1 q2 q3
        go_enter Tryz.func9, Tryz.ntmps9
        go_wp2_with (first
          | (have hg := G0.out; clear hg; go_at_call 18; refine (HCL.out _ hrf).mono ?_; rintro e w1 ⟨rfl, hb1⟩; have HB1 := Aside0.mk hb1; clear hb1 G0)
          | (go_at_call 18; refine (HCH.out _ HB1.out).mono ?_; rintro e w2 ⟨rfl, hb2⟩; have HB2 := Aside0.mk (HB1.out.trans (hb2.mono HB1.out.size)); clear hb2)
          | (have hg := G1.out; clear hg; go_at_call 16; refine (HK1.out _ HB2.out).mono ?_; rintro e w3 ⟨rfl, hb3⟩; have HB3 := Aside0.mk (HB2.out.trans (hb3.mono HB2.out.size)); clear hb3 G1)
          | (have hg := G2.out; clear hg; go_at_call 16; refine (HK2.out _ HB3.out).mono ?_; rintro e w4 ⟨rfl, hb4⟩; have HB4 := Aside0.mk (HB3.out.trans (hb4.mono HB3.out.size)); clear hb4 G2)
          | (go_at_call 16; refine (HK3.out _ HB4.out).mono ?_; rintro e w5 ⟨rfl, hb5⟩; have HB5 := Aside0.mk (HB4.out.trans (hb5.mono HB4.out.size)); clear hb5)
          | (go_at_call 14; refine (HW.out _ HB5.out).mono ?_; rintro e w6 ⟨rfl, hb6⟩; have HB6 := Aside0.mk (HB5.out.trans (hb6.mono HB5.out.size)); clear hb6))
        go_ret
        exact ⟨by simp [q1, q2, q3], HB6.out⟩
end Go.Proofs.YtcgcghldgomelaaGreatDoor.Mp
