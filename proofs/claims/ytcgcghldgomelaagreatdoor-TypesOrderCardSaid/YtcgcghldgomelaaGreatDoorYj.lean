/- TypesOrder, walked. -/
import Derived.Test.YtcgcghldgomelaaGreatDoorYi
namespace Go.Proofs.YtcgcghldgomelaaGreatDoor.Mp
open Go.RowKit Go.Shelf Go.Proofs.YtcgcghldgomelaaGreatDoor.Rng Go.Proofs.YtcgcghldgomelaaGreatDoorW.PrintWords Go.Proofs.YtcgcghldgomelaaGreatDoorW.PrintMore Go.Proofs.YtcgcghldgomelaaGreatDoorW.PrintLast

set_option maxRecDepth 100000 in
set_option maxHeartbeats 8000000 in
theorem order_any (t : Int) (ht : 0 ≤ t ∧ t < 256) (A : Option Addr) (ca : Nat) (a : List Int) (B : Option Addr) (cb : Nat) (b : List Int) (C : Option Addr) (cc : Nat) (c : List Int) (w : World) (h : Tbl w) (hT : Tabs w) (ha : Arg w A ca a) (hb : Arg w B cb b) (hc : Arg w C cc c) :
    Calls Tryz.prog 8 #[.int .u8 t, .slice A a.length ca, .slice B b.length cb, .slice C c.length cc] w fun e w' => e = .returned (.bool true) ∧ Below w.heap.size w w' := by
  have hrf : Below w.heap.size w w := Below.refl _ _
  have HW := Aside0.mk fun W (hW : Below w.heap.size w W) => works01_any W (hT.below hW) (h.below hW)
  have HC1 := Aside0.mk fun W (hW : Below w.heap.size w W) => compare_any t ht A ca a B cb b W (h.below hW) (ha.below hW).rd ha.byt ha.le ha.cap (hb.below hW).rd hb.byt hb.le hb.cap
  have HC2 := Aside0.mk fun W (hW : Below w.heap.size w W) => compare_any t ht B cb b A ca a W (h.below hW) (hb.below hW).rd hb.byt hb.le hb.cap (ha.below hW).rd ha.byt ha.le ha.cap
  have HC3 := Aside0.mk fun W (hW : Below w.heap.size w W) => compare_any t ht B cb b C cc c W (h.below hW) (hb.below hW).rd hb.byt hb.le hb.cap (hc.below hW).rd hc.byt hc.le hc.cap
  have HC4 := Aside0.mk fun W (hW : Below w.heap.size w W) => compare_any t ht A ca a C cc c W (h.below hW) (ha.below hW).rd ha.byt ha.le ha.cap (hc.below hW).rd hc.byt hc.le hc.cap
  have HSA := Aside0.mk fun W (hW : Below w.heap.size w W) => str_at (c := ca) (Rd_C ha.rd) W hW
  have HSB := Aside0.mk fun W (hW : Below w.heap.size w W) => str_at (c := cb) (Rd_C hb.rd) W hW
  obtain ⟨⟨l1, l2, l3⟩, l4, l5⟩ := order_law t ha.byt hb.byt hc.byt
  have l4' : (cmpC t a b).2 = true → ((cmpC t a b).1 = 0 ↔ strOfNums a = strOfNums b) := fun h => (l4 h).trans ⟨fun e => by rw [e], fun e => strOf_inj ha.byt hb.byt e⟩
  clear l4
  generalize strOfNums a = sa at *
  generalize strOfNums b = sb at *
  generalize cmpC t a b = r1 at *
  generalize cmpC t b a = r2 at *
  generalize cmpC t b c = r3 at *
  generalize cmpC t a c = r4 at *
  obtain ⟨x, ok⟩ := r1
  obtain ⟨y, is⟩ := r2
  obtain ⟨z, fine⟩ := r3
  obtain ⟨v, good⟩ := r4
  simp only at l1 l2 l3 l4' l5
  subst l1 l2
  generalize a.length = na at *
  generalize b.length = nb at *
  generalize c.length = nc at *
  clear ha hb hc h hT
  have hwr : IntKind.i64.wrap y = y := by
    rw [i64_w]
    unfold wrap64
    omega
  have l6 : ok = true → (!((-y == 0) == (sa.toList == sb.toList))) = false := fun h => by
    have h4 := l4' h
    have e1 : (sa.toList == sb.toList) = decide (sa = sb) := by
      by_cases e : sa = sb
      · rw [e]
        simp
      · have : ¬ sa.toList = sb.toList := fun hh => e (by
          have h7 := congrArg List.toArray hh
          rw [Lib.toList_data, Lib.toList_data] at hh
          have h8 : sa.data = sb.data := by
            have := congrArg List.toArray hh
            simpa using this
          cases sa
          cases sb
          simp only at h8
          rw [h8])
        simp [e, this]
    have e2 : (-y == 0) = decide (sa = sb) := by
      by_cases e : -y = 0
      · simp [e, h4.1 e]
      · have : ¬ sa = sb := fun hh => e (h4.2 hh)
        simp [e, this]
    rw [e1, e2]
    simp
  clear l4'
  have G0 := Aside0.mk True.intro
  have G1 := Aside0.mk True.intro
  have G2 := Aside0.mk True.intro
  by_cases h1 : (5000 : Int) < na
  · have d1 := decide_eq_true h1
    go_enter Tryz.func8, Tryz.ntmps8
    go_wp2_with (go_at_call 14; refine (HW.out _ hrf).mono ?_; rintro e w1 ⟨rfl, hb1⟩; have HB1 := Aside0.mk hb1; clear hb1)
    go_ret
    exact ⟨rfl, HB1.out⟩
  have d1 := decide_eq_false h1
  by_cases h2 : (5000 : Int) < nb
  · have d2 := decide_eq_true h2
    go_enter Tryz.func8, Tryz.ntmps8
    go_wp2_with (go_at_call 14; refine (HW.out _ hrf).mono ?_; rintro e w1 ⟨rfl, hb1⟩; have HB1 := Aside0.mk hb1; clear hb1)
    go_ret
    exact ⟨rfl, HB1.out⟩
  have d2 := decide_eq_false h2
  by_cases h3 : (5000 : Int) < nc
  · have d3 := decide_eq_true h3
    go_enter Tryz.func8, Tryz.ntmps8
    go_wp2_with (go_at_call 14; refine (HW.out _ hrf).mono ?_; rintro e w1 ⟨rfl, hb1⟩; have HB1 := Aside0.mk hb1; clear hb1)
    go_ret
    exact ⟨rfl, HB1.out⟩
  have d3 := decide_eq_false h3
  go_enter Tryz.func8, Tryz.ntmps8
  go_wp2_with (first
    | (have hg := G0.out; clear hg; go_at_call 18; refine (HC1.out _ hrf).mono ?_; rintro e w1 ⟨rfl, hb1⟩; have HB1 := Aside0.mk hb1; clear hb1 G0)
    | (have hg := G1.out; clear hg; go_at_call 18; refine (HC2.out _ HB1.out).mono ?_; rintro e w2 ⟨rfl, hb2⟩; have HB2 := Aside0.mk (HB1.out.trans (hb2.mono HB1.out.size)); have cva := HSA.out _ HB2.out; have cvb := HSB.out _ HB2.out; clear hb2 G1)
    | (have hg := G2.out; clear hg; go_at_call 18; clear cva cvb; refine (HC3.out _ HB2.out).mono ?_; rintro e w3 ⟨rfl, hb3⟩; have HB3 := Aside0.mk (HB2.out.trans (hb3.mono HB2.out.size)); clear hb3 G2)
    | (go_at_call 18; refine (HC4.out _ HB3.out).mono ?_; rintro e w4 ⟨rfl, hb4⟩; have HB4 := Aside0.mk (HB3.out.trans (hb4.mono HB3.out.size)); clear hb4)
    | (go_at_call 14; refine (HW.out _ HB4.out).mono ?_; rintro e w5 ⟨rfl, hb5⟩; have HB5 := Aside0.mk (HB4.out.trans (hb5.mono HB4.out.size)); clear hb5))
  all_goals first
    | (go_ret; exact ⟨rfl, HB5.out⟩)
    | (exfalso; exact absurd (show (!((-y == 0) == (sa.toList == sb.toList))) = true by assumption) (by rw [l6 (by assumption)]; decide))
    | (exfalso; obtain ⟨g1, g2, g3⟩ := l5 (by assumption) (by assumption); first | omega | (rw [g1] at *; simp_all))
end Go.Proofs.YtcgcghldgomelaaGreatDoor.Mp
