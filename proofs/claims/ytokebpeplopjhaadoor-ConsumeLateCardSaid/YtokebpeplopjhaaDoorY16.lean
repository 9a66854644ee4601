/- Producers: is an object sent as time goes? frame.Make. -/
import Derived.Test.YtokebpeplopjhaaDoorY15
import Derived.Test.YtokebpeplopjhaaDoorY11
import Derived.Laws.IdiomCopy
import Derived.RangeFuncRecord
import Derived.Below
import Derived.OwnWalkIn
import Derived.Laws.CopyRow
import Derived.Laws.CopyOwn
namespace Go.Proofs.YtokebpeplopjhaaDoor.Mp
open Go.RowKit Go.Shelf Go.Proofs.YtokebpeplopjhaaDoor.Rng Go.Proofs.YtokebpeplopjhaaDoorW.PrintWords Go.Proofs.YtokebpeplopjhaaDoorW.PrintMore Go.Proofs.YtokebpeplopjhaaDoorW.PrintLast

/-- Is an object sent as time goes? -/
def tickC (o : Option DD) (x : Ob) (now : Int) : Bool :=
  if x.cm.timed = false ∨ wrap64 (now - x.at_) < 0 ∨ (x.sent = true ∧ wrap64 (now - x.at_) < x.cm.inh) then false else chgC o x || x.wanted || (decide (0 < x.cm.ev) && decide (x.cm.ev ≤ wrap64 (now - x.at_)))
set_option maxRecDepth 100000 in
set_option maxHeartbeats 8000000 in
theorem ptick_any (B : Nat) (g Bn Bp : Nat) (vd : Value) (o : Option DD) (os : Nat → Ob) (vm vb : Nat → Value) (goes : Bool) (n0 now : Int) (i : Nat) (w : World) (h : PrAt w g vd os vm vb goes n0) (hi : i < 8) (hd : DictV B w vd o) (ht : Tbl w) (hg : ∀ d, o = some d → Good d) (hmw : ∀ m ∈ (os i).maps, m.Wf) (hml : (os i).maps.length ≤ 1000) (hn : w.cell? ⟨Bn, 0, none⟩ = some (.int .i64 now)) (hp : w.cell? ⟨Bp, 0, none⟩ = some (.pointer (some ⟨g, 0, none⟩))) :
    Calls Tryd.prog 94 #[.pointer (some ⟨g, 1 + i * 13, none⟩), .pointer (some ⟨Bn, 0, none⟩), .pointer (some ⟨Bp, 0, none⟩)] w fun e w' => e = .returned (.bool (tickC o (os i) now)) ∧ Below w.heap.size w w' := by
  have HCH := Aside0.mk fun (X : World) (hX : Below w.heap.size w X) => pchanged_any B g vd o os vm vb goes n0 i X (h.below hX) hi (hd.below hX) (ht.below hX) hg hmw hml
  have hob := h.ob i hi
  have y0 := hob 0 _ rfl
  have y1 := hob 1 _ rfl
  have y2 := hob 2 _ rfl
  have y3 := hob 3 _ rfl
  have y4 := hob 4 _ rfl
  have y5 := hob 5 _ rfl
  have y7 := hob 7 _ rfl
  have y9 := hob 9 _ rfl
  have y10 := hob 10 _ rfl
  rw [Nat.add_zero] at y0
  have HTM := Aside0.mk (fun X => ptimed_any (os i).cm X)
  generalize os i = x at HCH HTM hob y0 y1 y2 y3 y4 y5 y7 y9 y10 ⊢
  obtain ⟨⟨on, id, kind, inh, ev, st⟩, maps, sent, bts, at_, wanted, counts, begun⟩ := x
  simp only at y0 y1 y2 y3 y4 y5 y7 y9 y10
  obtain ⟨r, hr⟩ : ∃ r, tickC o ⟨⟨on, id, kind, inh, ev, st⟩, maps, sent, bts, at_, wanted, counts, begun⟩ now = r := ⟨_, rfl⟩
  rw [hr]
  unfold tickC at hr
  simp only at hr
  obtain ⟨tm, htm⟩ : ∃ tm, Cm.timed ⟨on, id, kind, inh, ev, st⟩ = tm := ⟨_, rfl⟩
  obtain ⟨ch, hch⟩ : ∃ ch, chgC o ⟨⟨on, id, kind, inh, ev, st⟩, maps, sent, bts, at_, wanted, counts, begun⟩ = ch := ⟨_, rfl⟩
  rw [htm, hch] at hr
  rw [htm] at HTM
  rw [hch] at HCH
  obtain ⟨t, htt⟩ : ∃ t, wrap64 (now - at_) = t := ⟨_, rfl⟩
  have htt2 : IntKind.i64.wrap (now - at_) = t := by rw [i64_w]; exact htt
  rw [htt] at hr
  have HR := Aside0.mk hr
  have HY := Aside0.mk fun (X : World) (hX : Below w.heap.size w X) => (show _ ∧ _ ∧ _ ∧ _ ∧ _ ∧ _ ∧ _ ∧ _ ∧ _ from ⟨pw_cell_below hX y0, pw_cell_below hX y1, pw_cell_below hX y2, pw_cell_below hX y3, pw_cell_below hX y4, pw_cell_below hX y5, pw_cell_below hX y7, pw_cell_below hX y10, pw_cell_below hX hp⟩)
  have u0 : ∀ X, Below w.heap.size w X → _ := fun X hX => pw_cell_below hX hn
  have u9 : ∀ X, Below w.heap.size w X → _ := fun X hX => pw_cell_below hX y9
  have hS0 : Below w.heap.size w w.drew := below_drew (Below.refl _ _)
  have HS0 := Aside0.mk hS0
  clear h hi hd ht hg hmw hml hn hp hob htm hch hr y0 y1 y2 y3 y4 y5 y7 y9 y10
  cases tm with
  | false =>
    have hrr : r = false := by rw [← HR.out]; simp []
    subst hrr
    go_enter Tryd.func94, Tryd.ntmps94
    go_wp2
    go_region_held3 (fun X => Below w.heap.size w X) (first | assumption | exact hS0) (fail)
    obtain ⟨y0, y1, y2, y3, y4, y5, y7, y10, hp⟩ := HY.out _ HS0.out
    clear u0 u9 hS0
    generalize w.drew = w0 at HS0 y0 y1 y2 y3 y4 y5 y7 y10 hp ⊢
    go_wp2_with (first
      | (go_at_call 95; refine (HTM.out _).mono ?_; rintro e w1 ⟨rfl, hb1⟩; have HB1 := Aside0.mk (HS0.out.trans (hb1.mono HS0.out.size)); obtain ⟨z0, z1, z2, z3, z4, z5, z7, z10, zp⟩ := HY.out _ HB1.out; clear hb1))
    go_ret
    exact ⟨rfl, HB1.out⟩
  | true =>
    by_cases h1 : t < 0
    · have d1 := decide_eq_true h1
      have hrr : r = false := by rw [← HR.out]; simp [h1]
      subst hrr
      go_enter Tryd.func94, Tryd.ntmps94
      go_wp2
      go_region_held3 (fun X => Below w.heap.size w X) (first | assumption | exact hS0) (fail)
      obtain ⟨y0, y1, y2, y3, y4, y5, y7, y10, hp⟩ := HY.out _ HS0.out
      clear u0 u9 hS0
      generalize w.drew = w0 at HS0 y0 y1 y2 y3 y4 y5 y7 y10 hp ⊢
      go_wp2_with (first
        | (go_at_call 95; refine (HTM.out _).mono ?_; rintro e w1 ⟨rfl, hb1⟩; have HB1 := Aside0.mk (HS0.out.trans (hb1.mono HS0.out.size)); obtain ⟨z0, z1, z2, z3, z4, z5, z7, z10, zp⟩ := HY.out _ HB1.out; clear hb1))
      go_ret
      exact ⟨rfl, HB1.out⟩
    · have d1 := decide_eq_false h1
      cases sent with
      | false =>
        cases ch with
        | true =>
          have hrr : r = true := by rw [← HR.out]; simp [h1]
          subst hrr
          go_enter Tryd.func94, Tryd.ntmps94
          go_wp2
          go_region_held3 (fun X => Below w.heap.size w X) (first | assumption | exact hS0) (fail)
          obtain ⟨y0, y1, y2, y3, y4, y5, y7, y10, hp⟩ := HY.out _ HS0.out
          clear u0 u9 hS0
          generalize w.drew = w0 at HS0 y0 y1 y2 y3 y4 y5 y7 y10 hp ⊢
          go_wp2_with (first
            | (go_at_call 95; refine (HTM.out _).mono ?_; rintro e w1 ⟨rfl, hb1⟩; have HB1 := Aside0.mk (HS0.out.trans (hb1.mono HS0.out.size)); obtain ⟨z0, z1, z2, z3, z4, z5, z7, z10, zp⟩ := HY.out _ HB1.out; clear hb1)
            | (go_at_call 96; refine (HCH.out _ HB1.out).mono ?_; rintro e w2 ⟨rfl, hb2⟩; have HB2 := Aside0.mk (HB1.out.trans (hb2.mono HB1.out.size)); obtain ⟨x0, x1, x2, x3, x4, x5, x7, x10, xp⟩ := HY.out _ HB2.out; clear hb2))
          go_ret
          exact ⟨rfl, HB2.out⟩
        | false =>
          cases wanted with
          | true =>
            have hrr : r = true := by rw [← HR.out]; simp [h1]
            subst hrr
            go_enter Tryd.func94, Tryd.ntmps94
            go_wp2
            go_region_held3 (fun X => Below w.heap.size w X) (first | assumption | exact hS0) (fail)
            obtain ⟨y0, y1, y2, y3, y4, y5, y7, y10, hp⟩ := HY.out _ HS0.out
            clear u0 u9 hS0
            generalize w.drew = w0 at HS0 y0 y1 y2 y3 y4 y5 y7 y10 hp ⊢
            go_wp2_with (first
              | (go_at_call 95; refine (HTM.out _).mono ?_; rintro e w1 ⟨rfl, hb1⟩; have HB1 := Aside0.mk (HS0.out.trans (hb1.mono HS0.out.size)); obtain ⟨z0, z1, z2, z3, z4, z5, z7, z10, zp⟩ := HY.out _ HB1.out; clear hb1)
              | (go_at_call 96; refine (HCH.out _ HB1.out).mono ?_; rintro e w2 ⟨rfl, hb2⟩; have HB2 := Aside0.mk (HB1.out.trans (hb2.mono HB1.out.size)); obtain ⟨x0, x1, x2, x3, x4, x5, x7, x10, xp⟩ := HY.out _ HB2.out; clear hb2))
            go_ret
            exact ⟨rfl, HB2.out⟩
          | false =>
            by_cases h3 : 0 < ev
            · by_cases h4 : ev ≤ t
              · have d4 := decide_eq_true h4
                have hrr : r = true := by rw [← HR.out]; simp [h1, h3, h4]
                subst hrr
                go_enter Tryd.func94, Tryd.ntmps94
                go_wp2
                go_region_held3 (fun X => Below w.heap.size w X) (first | assumption | exact hS0) (fail)
                obtain ⟨y0, y1, y2, y3, y4, y5, y7, y10, hp⟩ := HY.out _ HS0.out
                clear u0 u9 hS0
                generalize w.drew = w0 at HS0 y0 y1 y2 y3 y4 y5 y7 y10 hp ⊢
                go_wp2_with (first
                  | (go_at_call 95; refine (HTM.out _).mono ?_; rintro e w1 ⟨rfl, hb1⟩; have HB1 := Aside0.mk (HS0.out.trans (hb1.mono HS0.out.size)); obtain ⟨z0, z1, z2, z3, z4, z5, z7, z10, zp⟩ := HY.out _ HB1.out; clear hb1)
                  | (go_at_call 96; refine (HCH.out _ HB1.out).mono ?_; rintro e w2 ⟨rfl, hb2⟩; have HB2 := Aside0.mk (HB1.out.trans (hb2.mono HB1.out.size)); obtain ⟨x0, x1, x2, x3, x4, x5, x7, x10, xp⟩ := HY.out _ HB2.out; clear hb2))
                go_ret
                exact ⟨rfl, HB2.out⟩
              · have d4 := decide_eq_false h4
                have hrr : r = false := by rw [← HR.out]; simp [h1, h3, h4]
                subst hrr
                go_enter Tryd.func94, Tryd.ntmps94
                go_wp2
                go_region_held3 (fun X => Below w.heap.size w X) (first | assumption | exact hS0) (fail)
                obtain ⟨y0, y1, y2, y3, y4, y5, y7, y10, hp⟩ := HY.out _ HS0.out
                clear u0 u9 hS0
                generalize w.drew = w0 at HS0 y0 y1 y2 y3 y4 y5 y7 y10 hp ⊢
                go_wp2_with (first
                  | (go_at_call 95; refine (HTM.out _).mono ?_; rintro e w1 ⟨rfl, hb1⟩; have HB1 := Aside0.mk (HS0.out.trans (hb1.mono HS0.out.size)); obtain ⟨z0, z1, z2, z3, z4, z5, z7, z10, zp⟩ := HY.out _ HB1.out; clear hb1)
                  | (go_at_call 96; refine (HCH.out _ HB1.out).mono ?_; rintro e w2 ⟨rfl, hb2⟩; have HB2 := Aside0.mk (HB1.out.trans (hb2.mono HB1.out.size)); obtain ⟨x0, x1, x2, x3, x4, x5, x7, x10, xp⟩ := HY.out _ HB2.out; clear hb2))
                go_ret
                exact ⟨rfl, HB2.out⟩
            · have d3 := decide_eq_false h3
              have hrr : r = false := by rw [← HR.out]; simp [h1, h3]
              subst hrr
              go_enter Tryd.func94, Tryd.ntmps94
              go_wp2
              go_region_held3 (fun X => Below w.heap.size w X) (first | assumption | exact hS0) (fail)
              obtain ⟨y0, y1, y2, y3, y4, y5, y7, y10, hp⟩ := HY.out _ HS0.out
              clear u0 u9 hS0
              generalize w.drew = w0 at HS0 y0 y1 y2 y3 y4 y5 y7 y10 hp ⊢
              go_wp2_with (first
                | (go_at_call 95; refine (HTM.out _).mono ?_; rintro e w1 ⟨rfl, hb1⟩; have HB1 := Aside0.mk (HS0.out.trans (hb1.mono HS0.out.size)); obtain ⟨z0, z1, z2, z3, z4, z5, z7, z10, zp⟩ := HY.out _ HB1.out; clear hb1)
                | (go_at_call 96; refine (HCH.out _ HB1.out).mono ?_; rintro e w2 ⟨rfl, hb2⟩; have HB2 := Aside0.mk (HB1.out.trans (hb2.mono HB1.out.size)); obtain ⟨x0, x1, x2, x3, x4, x5, x7, x10, xp⟩ := HY.out _ HB2.out; clear hb2))
              go_ret
              exact ⟨rfl, HB2.out⟩
      | true =>
        by_cases h2 : t < inh
        · have d2 := decide_eq_true h2
          have hrr : r = false := by rw [← HR.out]; simp [h1, h2]
          subst hrr
          go_enter Tryd.func94, Tryd.ntmps94
          go_wp2
          go_region_held3 (fun X => Below w.heap.size w X) (first | assumption | exact hS0) (fail)
          obtain ⟨y0, y1, y2, y3, y4, y5, y7, y10, hp⟩ := HY.out _ HS0.out
          clear u0 u9 hS0
          generalize w.drew = w0 at HS0 y0 y1 y2 y3 y4 y5 y7 y10 hp ⊢
          go_wp2_with (first
            | (go_at_call 95; refine (HTM.out _).mono ?_; rintro e w1 ⟨rfl, hb1⟩; have HB1 := Aside0.mk (HS0.out.trans (hb1.mono HS0.out.size)); obtain ⟨z0, z1, z2, z3, z4, z5, z7, z10, zp⟩ := HY.out _ HB1.out; clear hb1))
          go_ret
          exact ⟨rfl, HB1.out⟩
        · have d2 := decide_eq_false h2
          cases ch with
          | true =>
            have hrr : r = true := by rw [← HR.out]; simp [h1, h2]
            subst hrr
            go_enter Tryd.func94, Tryd.ntmps94
            go_wp2
            go_region_held3 (fun X => Below w.heap.size w X) (first | assumption | exact hS0) (fail)
            obtain ⟨y0, y1, y2, y3, y4, y5, y7, y10, hp⟩ := HY.out _ HS0.out
            clear u0 u9 hS0
            generalize w.drew = w0 at HS0 y0 y1 y2 y3 y4 y5 y7 y10 hp ⊢
            go_wp2_with (first
              | (go_at_call 95; refine (HTM.out _).mono ?_; rintro e w1 ⟨rfl, hb1⟩; have HB1 := Aside0.mk (HS0.out.trans (hb1.mono HS0.out.size)); obtain ⟨z0, z1, z2, z3, z4, z5, z7, z10, zp⟩ := HY.out _ HB1.out; clear hb1)
              | (go_at_call 96; refine (HCH.out _ HB1.out).mono ?_; rintro e w2 ⟨rfl, hb2⟩; have HB2 := Aside0.mk (HB1.out.trans (hb2.mono HB1.out.size)); obtain ⟨x0, x1, x2, x3, x4, x5, x7, x10, xp⟩ := HY.out _ HB2.out; clear hb2))
            go_ret
            exact ⟨rfl, HB2.out⟩
          | false =>
            cases wanted with
            | true =>
              have hrr : r = true := by rw [← HR.out]; simp [h1, h2]
              subst hrr
              go_enter Tryd.func94, Tryd.ntmps94
              go_wp2
              go_region_held3 (fun X => Below w.heap.size w X) (first | assumption | exact hS0) (fail)
              obtain ⟨y0, y1, y2, y3, y4, y5, y7, y10, hp⟩ := HY.out _ HS0.out
              clear u0 u9 hS0
              generalize w.drew = w0 at HS0 y0 y1 y2 y3 y4 y5 y7 y10 hp ⊢
              go_wp2_with (first
                | (go_at_call 95; refine (HTM.out _).mono ?_; rintro e w1 ⟨rfl, hb1⟩; have HB1 := Aside0.mk (HS0.out.trans (hb1.mono HS0.out.size)); obtain ⟨z0, z1, z2, z3, z4, z5, z7, z10, zp⟩ := HY.out _ HB1.out; clear hb1)
                | (go_at_call 96; refine (HCH.out _ HB1.out).mono ?_; rintro e w2 ⟨rfl, hb2⟩; have HB2 := Aside0.mk (HB1.out.trans (hb2.mono HB1.out.size)); obtain ⟨x0, x1, x2, x3, x4, x5, x7, x10, xp⟩ := HY.out _ HB2.out; clear hb2))
              go_ret
              exact ⟨rfl, HB2.out⟩
            | false =>
              by_cases h3 : 0 < ev
              · by_cases h4 : ev ≤ t
                · have d4 := decide_eq_true h4
                  have hrr : r = true := by rw [← HR.out]; simp [h1, h2, h3, h4]
                  subst hrr
                  go_enter Tryd.func94, Tryd.ntmps94
                  go_wp2
                  go_region_held3 (fun X => Below w.heap.size w X) (first | assumption | exact hS0) (fail)
                  obtain ⟨y0, y1, y2, y3, y4, y5, y7, y10, hp⟩ := HY.out _ HS0.out
                  clear u0 u9 hS0
                  generalize w.drew = w0 at HS0 y0 y1 y2 y3 y4 y5 y7 y10 hp ⊢
                  go_wp2_with (first
                    | (go_at_call 95; refine (HTM.out _).mono ?_; rintro e w1 ⟨rfl, hb1⟩; have HB1 := Aside0.mk (HS0.out.trans (hb1.mono HS0.out.size)); obtain ⟨z0, z1, z2, z3, z4, z5, z7, z10, zp⟩ := HY.out _ HB1.out; clear hb1)
                    | (go_at_call 96; refine (HCH.out _ HB1.out).mono ?_; rintro e w2 ⟨rfl, hb2⟩; have HB2 := Aside0.mk (HB1.out.trans (hb2.mono HB1.out.size)); obtain ⟨x0, x1, x2, x3, x4, x5, x7, x10, xp⟩ := HY.out _ HB2.out; clear hb2))
                  go_ret
                  exact ⟨rfl, HB2.out⟩
                · have d4 := decide_eq_false h4
                  have hrr : r = false := by rw [← HR.out]; simp [h1, h2, h3, h4]
                  subst hrr
                  go_enter Tryd.func94, Tryd.ntmps94
                  go_wp2
                  go_region_held3 (fun X => Below w.heap.size w X) (first | assumption | exact hS0) (fail)
                  obtain ⟨y0, y1, y2, y3, y4, y5, y7, y10, hp⟩ := HY.out _ HS0.out
                  clear u0 u9 hS0
                  generalize w.drew = w0 at HS0 y0 y1 y2 y3 y4 y5 y7 y10 hp ⊢
                  go_wp2_with (first
                    | (go_at_call 95; refine (HTM.out _).mono ?_; rintro e w1 ⟨rfl, hb1⟩; have HB1 := Aside0.mk (HS0.out.trans (hb1.mono HS0.out.size)); obtain ⟨z0, z1, z2, z3, z4, z5, z7, z10, zp⟩ := HY.out _ HB1.out; clear hb1)
                    | (go_at_call 96; refine (HCH.out _ HB1.out).mono ?_; rintro e w2 ⟨rfl, hb2⟩; have HB2 := Aside0.mk (HB1.out.trans (hb2.mono HB1.out.size)); obtain ⟨x0, x1, x2, x3, x4, x5, x7, x10, xp⟩ := HY.out _ HB2.out; clear hb2))
                  go_ret
                  exact ⟨rfl, HB2.out⟩
              · have d3 := decide_eq_false h3
                have hrr : r = false := by rw [← HR.out]; simp [h1, h2, h3]
                subst hrr
                go_enter Tryd.func94, Tryd.ntmps94
                go_wp2
                go_region_held3 (fun X => Below w.heap.size w X) (first | assumption | exact hS0) (fail)
                obtain ⟨y0, y1, y2, y3, y4, y5, y7, y10, hp⟩ := HY.out _ HS0.out
                clear u0 u9 hS0
                generalize w.drew = w0 at HS0 y0 y1 y2 y3 y4 y5 y7 y10 hp ⊢
                go_wp2_with (first
                  | (go_at_call 95; refine (HTM.out _).mono ?_; rintro e w1 ⟨rfl, hb1⟩; have HB1 := Aside0.mk (HS0.out.trans (hb1.mono HS0.out.size)); obtain ⟨z0, z1, z2, z3, z4, z5, z7, z10, zp⟩ := HY.out _ HB1.out; clear hb1)
                  | (go_at_call 96; refine (HCH.out _ HB1.out).mono ?_; rintro e w2 ⟨rfl, hb2⟩; have HB2 := Aside0.mk (HB1.out.trans (hb2.mono HB1.out.size)); obtain ⟨x0, x1, x2, x3, x4, x5, x7, x10, xp⟩ := HY.out _ HB2.out; clear hb2))
                go_ret
                exact ⟨rfl, HB2.out⟩
end Go.Proofs.YtokebpeplopjhaaDoor.Mp
namespace Go.Proofs.YtokebpeplopjhaaDoor.Frm
open Go.RowKit Go.Proofs.YtokebpeplopjhaaDoorW.PrintWords Go.Proofs.YtokebpeplopjhaaDoorW.PrintMore Go.Proofs.YtokebpeplopjhaaDoorW.PrintLast

structure Fm where
  id : Int
  len : Int
  d : List Int
  rem : Bool
def Fm.cells (f : Fm) : Array Value := #[.int .u16 f.id, .int .i64 f.len] ++ (f.d.map (Value.int .u8)).toArray ++ #[.bool f.rem]
def fm0 : Fm := ⟨0, 0, [0, 0, 0, 0, 0, 0, 0, 0], false⟩

/-- An array into which a list is put from a place on. -/
def putAt : Array Value → Nat → List Value → Array Value
  | cs, _, [] => cs
  | cs, o, v :: r => putAt (cs.setIfInBounds o v) (o + 1) r
theorem heap_setCells {g : Nat} {t : TypeId} : ∀ (vs : List Value) (o : Nat) (w : World) (cs : Array Value), w.heap[g]? = some (.cells cs t (0, 0)) → (w.setCells g o vs).heap[g]? = some (.cells (putAt cs o vs) t (0, 0))
  | [], _, _, _, h => h
  | v :: r, o, w, cs, h => heap_setCells r (o + 1) (w.setCell ⟨g, o, none⟩ v) (cs.setIfInBounds o v) (blk_put h o v rfl)
theorem cells11 (W : World) (g : Nat) (v0 v1 v2 v3 v4 v5 v6 v7 v8 v9 v10 : Value) :
    ((((((((((W.setCell ⟨g, 0, none⟩ v0).setCell ⟨g, 1, none⟩ v1).setCell ⟨g, 2, none⟩ v2).setCell ⟨g, 3, none⟩ v3).setCell ⟨g, 4, none⟩ v4).setCell ⟨g, 5, none⟩ v5).setCell ⟨g, 6, none⟩ v6).setCell ⟨g, 7, none⟩ v7).setCell ⟨g, 8, none⟩ v8).setCell ⟨g, 9, none⟩ v9).setCell ⟨g, 10, none⟩ v10 = W.setCells g 0 [v0, v1, v2, v3, v4, v5, v6, v7, v8, v9, v10] := rfl
theorem putAt11 (u0 u1 u2 u3 u4 u5 u6 u7 u8 u9 u10 v0 v1 v2 v3 v4 v5 v6 v7 v8 v9 v10 : Value) : putAt #[u0, u1, u2, u3, u4, u5, u6, u7, u8, u9, u10] 0 [v0, v1, v2, v3, v4, v5, v6, v7, v8, v9, v10] = #[v0, v1, v2, v3, v4, v5, v6, v7, v8, v9, v10] := by simp [putAt]
theorem row11 {W : World} {g : Nat} {t : TypeId} {u0 u1 u2 u3 u4 u5 u6 u7 u8 u9 u10 : Value} (h : W.heap[g]? = some (.cells #[u0, u1, u2, u3, u4, u5, u6, u7, u8, u9, u10] t (0, 0))) (v0 v1 v2 v3 v4 v5 v6 v7 v8 v9 v10 : Value) :
    (W.setCells g 0 [v0, v1, v2, v3, v4, v5, v6, v7, v8, v9, v10]).heap[g]? = some (.cells #[v0, v1, v2, v3, v4, v5, v6, v7, v8, v9, v10] t (0, 0)) := by
  rw [← putAt11 u0 u1 u2 u3 u4 u5 u6 u7 u8 u9 u10]
  exact heap_setCells _ _ _ _ h
theorem below_cells {B g : Nat} (hg : B ≤ g) : ∀ (vs : List Value) (o : Nat) {a w : World}, Below B a w → Below B a (w.setCells g o vs)
  | [], _, _, _, h => h
  | v :: r, o, _, _, h => below_cells hg r (o + 1) (h.setCell (p := ⟨g, o, none⟩) hg v)
theorem alloc_drewN (w : World) (o : Obj) (m : Nat) : (w.alloc o).drewN m = (w.drewN m).alloc o := rfl
theorem below_drewN {B : Nat} {a w : World} (h : Below B a w) (m : Nat) : Below B a (w.drewN m) := ⟨h.os, h.tape, h.output, h.size, h.block⟩
theorem drewN_new (w : World) (o : Obj) (m : Nat) : ((w.alloc o).drewN m).heap[w.heap.size]? = some o := World.alloc_heap_new w o
/-- A new row of eleven cells, a draw, a store over the whole row. -/
theorem new_row (w : World) (t : TypeId) (m : Nat) (u0 u1 u2 u3 u4 u5 u6 u7 u8 u9 u10 v0 v1 v2 v3 v4 v5 v6 v7 v8 v9 v10 : Value) :
    (((w.alloc (.cells #[u0, u1, u2, u3, u4, u5, u6, u7, u8, u9, u10] t)).drewN m).setCells w.heap.size 0 [v0, v1, v2, v3, v4, v5, v6, v7, v8, v9, v10]).heap[w.heap.size]? = some (.cells #[v0, v1, v2, v3, v4, v5, v6, v7, v8, v9, v10] t (0, 0)) := by
  have h := drewN_new w (.cells #[u0, u1, u2, u3, u4, u5, u6, u7, u8, u9, u10] t) m
  generalize (w.alloc (.cells #[u0, u1, u2, u3, u4, u5, u6, u7, u8, u9, u10] t)).drewN m = W at h
  exact row11 h v0 v1 v2 v3 v4 v5 v6 v7 v8 v9 v10
theorem new_below (w : World) (o : Obj) (m : Nat) (vs : List Value) : Below w.heap.size w (((w.alloc o).drewN m).setCells w.heap.size 0 vs) :=
  below_cells (Nat.le_refl _) _ _ (below_drewN (below_alloc (Below.refl _ _) _) m)
theorem two_new1 (w : World) (o1 o2 : Obj) (m : Nat) : (((w.alloc o1).drewN m).alloc o2).heap[w.heap.size]? = some o1 := blk_alloc (drewN_new w o1 m) o2
theorem two_new2 (w : World) (o1 o2 : Obj) (m : Nat) : (((w.alloc o1).drewN m).alloc o2).heap[w.heap.size + 1]? = some o2 := by
  have h := heap_alloc_new ((w.alloc o1).drewN m) o2
  have hs : ((w.alloc o1).drewN m).heap.size = w.heap.size + 1 := by
    show (w.alloc o1).heap.size = _
    simp
  rwa [hs] at h
theorem two_below (w : World) (o1 o2 : Obj) (m : Nat) : Below w.heap.size w (((w.alloc o1).drewN m).alloc o2) :=
  (below_drewN (below_alloc (Below.refl _ _) _) m).alloc (by show _ ≤ (w.alloc o1).heap.size; simp) _
theorem fm_at {W : World} {g : Nat} {t : TypeId} {i n x0 x1 x2 x3 x4 x5 x6 x7 : Int} {b : Bool} (h : W.heap[g]? = some (.cells (Fm.cells ⟨i, n, [x0, x1, x2, x3, x4, x5, x6, x7], b⟩) t (0, 0))) :
    W.cell? ⟨g, 0, none⟩ = some (.int .u16 i) ∧ W.cell? ⟨g, 1, none⟩ = some (.int .i64 n) ∧ W.cell? ⟨g, 2, none⟩ = some (.int .u8 x0) ∧ W.cell? ⟨g, 3, none⟩ = some (.int .u8 x1) ∧ W.cell? ⟨g, 4, none⟩ = some (.int .u8 x2) ∧ W.cell? ⟨g, 5, none⟩ = some (.int .u8 x3) ∧ W.cell? ⟨g, 6, none⟩ = some (.int .u8 x4) ∧ W.cell? ⟨g, 7, none⟩ = some (.int .u8 x5) ∧ W.cell? ⟨g, 8, none⟩ = some (.int .u8 x6) ∧ W.cell? ⟨g, 9, none⟩ = some (.int .u8 x7) ∧ W.cell? ⟨g, 10, none⟩ = some (.bool b) ∧ ∀ j, W.frozen? ⟨g, j, none⟩ = false :=
  ⟨blk_cell h 0, blk_cell h 1, blk_cell h 2, blk_cell h 3, blk_cell h 4, blk_cell h 5, blk_cell h 6, blk_cell h 7, blk_cell h 8, blk_cell h 9, blk_cell h 10, fun j => blk_frozen h j⟩
theorem row_fm {W : World} {g : Nat} {t : TypeId} {i n x0 x1 x2 x3 x4 x5 x6 x7 : Int} {b : Bool} (h : W.heap[g]? = some (.cells (Fm.cells ⟨i, n, [x0, x1, x2, x3, x4, x5, x6, x7], b⟩) t (0, 0))) (v0 v1 v2 v3 v4 v5 v6 v7 v8 v9 v10 : Value) :
    (W.setCells g 0 [v0, v1, v2, v3, v4, v5, v6, v7, v8, v9, v10]).heap[g]? = some (.cells #[v0, v1, v2, v3, v4, v5, v6, v7, v8, v9, v10] t (0, 0)) :=
  row11 h v0 v1 v2 v3 v4 v5 v6 v7 v8 v9 v10
theorem eight {d : List Int} (h : d.length = 8) : ∃ x0 x1 x2 x3 x4 x5 x6 x7, d = [x0, x1, x2, x3, x4, x5, x6, x7] := by
  match d, h with
  | [x0, x1, x2, x3, x4, x5, x6, x7], _ => exact ⟨x0, x1, x2, x3, x4, x5, x6, x7, rfl⟩
theorem fm_len (i n : Int) (d : List Int) (b : Bool) (k : Nat) (h : k < d.length) : (Fm.cells ⟨i, n, d, b⟩)[2 + k]? = some (.int .u8 (d[k]?.getD 0)) := by
  rw [List.getElem?_eq_getElem h]
  simp only [Fm.cells]
  rw [Array.getElem?_append_left (by simp; omega), Array.getElem?_append_right (by simp)]
  simp [h]

/-- A row of bytes is read as a list. -/
def Rd (w : World) (A : Option Addr) (zs : List Int) : Prop :=
  0 < zs.length → ∃ ad, A = some ad ∧ ∀ j, j < zs.length → w.cell? (ad.add j) = some (.int .u8 (zs[j]?.getD 0))
theorem add_block (a : Addr) (i : Nat) : (a.add i).block = a.block := by unfold Addr.add; split <;> rfl
theorem Rd.below {w w' : World} {A : Option Addr} {zs : List Int} (h : Rd w A zs) (hb : Below w.heap.size w w') : Rd w' A zs := by
  intro hn
  obtain ⟨ad, e, hc⟩ := h hn
  exact ⟨ad, e, fun j hj => (hb.cell (World.block_lt_of_cell? _ _ (hc j hj))).trans (hc j hj)⟩
/-- The frame of an identifier and bytes. -/
def mkF (i : Int) (zs : List Int) : Fm := ⟨i, zs.length, zs ++ List.replicate (8 - zs.length) 0, false⟩
def mkOk (i : Int) (zs : List Int) : Prop := i ≤ 2047 ∧ zs.length ≤ 8
theorem mk_cells (i n : Int) (zs : List Int) (h : zs.length ≤ 8) : ((Fm.cells ⟨i, n, [0, 0, 0, 0, 0, 0, 0, 0], false⟩).toList.take 2 ++ zs.map (Value.int .u8) ++ (Fm.cells ⟨i, n, [0, 0, 0, 0, 0, 0, 0, 0], false⟩).toList.drop (2 + (zs.map (Value.int .u8)).length)).toArray = Fm.cells ⟨i, n, zs ++ List.replicate (8 - zs.length) 0, false⟩ := by
  match zs, h with
  | [], _ => rfl
  | [_], _ => rfl
  | [_, _], _ => rfl
  | [_, _, _], _ => rfl
  | [_, _, _, _], _ => rfl
  | [_, _, _, _, _], _ => rfl
  | [_, _, _, _, _, _], _ => rfl
  | [_, _, _, _, _, _, _], _ => rfl
  | [_, _, _, _, _, _, _, _], _ => rfl
theorem copy_into (W : World) (g c : Nat) (i n : Int) (A : Option Addr) (zs : List Int) (hl : zs.length ≤ 8) (h0 : W.heap[g]? = some (.cells (Fm.cells ⟨i, n, [0, 0, 0, 0, 0, 0, 0, 0], false⟩) 104 (0, 0))) (hr : Rd W A zs) :
    ∃ W', (Builtin.copy_ #[34, 34] 3 #[.slice (some ⟨g, 2, none⟩) 8 8, .slice A zs.length c]).run Tryd.prog W = .ok (.int .i64 zs.length) W' ∧
      W'.heap[g]? = some (.cells (Fm.cells ⟨i, n, zs ++ List.replicate (8 - zs.length) 0, false⟩) 104 (0, 0)) ∧ (∀ k, k ≠ g → W'.heap[k]? = W.heap[k]?) ∧ Below g W W' := by
  rcases Nat.eq_zero_or_pos zs.length with hz | hz
  · obtain rfl := List.eq_nil_of_length_eq_zero hz
    have h := run_copy_none (P := Tryd.prog) W 34 34 3 5 (some ⟨g, 2, none⟩) A 8 8 0 c Tryd.underlying34 (by kernel_rfl) rfl
    exact ⟨W, h, h0, fun _ _ => rfl, Below.refl _ _⟩
  · obtain ⟨ad, rfl, hc⟩ := hr hz
    have h := run_copy_row (P := Tryd.prog) W 34 34 3 5 g 2 8 8 ad zs.length c _ 104 (zs.map (Value.int .u8)) Tryd.underlying34 (by kernel_rfl) h0
      (by rw [List.length_map]; exact (Nat.min_eq_left hl).symm)
      (by
        intro j v hj
        rw [List.getElem?_map] at hj
        have hjl : j < zs.length := by
          rcases Nat.lt_or_ge j zs.length with h | h
          · exact h
          · rw [List.getElem?_eq_none h] at hj; simp at hj
        rw [hc j hjl]
        rw [List.getElem?_eq_getElem hjl] at hj ⊢
        simpa using hj)
      (by rw [List.length_map]; simp [Fm.cells]; omega)
      (by intro v hv; obtain ⟨x, _, rfl⟩ := List.mem_map.1 hv; rfl)
    rw [mk_cells i n zs hl, List.length_map] at h
    exact ⟨_, h, setRow_heap W g _ _ _ _ h0, fun k hk => setRow_other W g k _ hk, below_setRow (Below.refl _ _) (Nat.le_refl _) _⟩
theorem fmake_res (tmps : Array Value) (w : World) (g : Nat) (cs : Array Value) (x : Value) (hp : tmps.getD 4 undef = .pointer (some ⟨g, 0, none⟩)) (ht : tmps.getD 5 undef = x) (hc : w.heap[g]? = some (.cells cs 104 (0, 0))) (hs : cs.size = 11) :
    (results Tryd.f127 tmps).run Tryd.prog w = .ok (.tuple #[.agg cs, x]) w := by
  have hi : (Tryd.prog.info? 104).map (·.size) = some 11 := by kernel_rfl
  rw [← ht]
  exact results_ct rfl tmps w g _ cs _ _ hp hc Tryd.underlying104 rfl (by rw [hi, hs])
set_option maxHeartbeats 2000000 in
set_option maxRecDepth 100000 in
theorem fmake_any (i : Int) (A : Option Addr) (c : Nat) (zs : List Int) (w : World) (hr : Rd w A zs) :
    Calls Tryd.prog 127 #[.int .u16 i, .slice A zs.length c] w fun e w' =>
      (mkOk i zs ∧ e = .returned (.tuple #[.agg (Fm.cells (mkF i zs)), .int .i64 0]) ∨ ¬ mkOk i zs ∧ e = .returned (.tuple #[.agg (Fm.cells fm0), .int .i64 2])) ∧ Below w.heap.size w w' := by
  have HR := Aside0.mk hr
  clear hr
  by_cases hh : i ≤ 2047 ∧ zs.length ≤ 8
  · obtain ⟨h1, h2⟩ := hh
    have hb0 := two_new1 w (.cells (Fm.cells fm0) 104) (.cells (Fm.cells ⟨i, zs.length, [0, 0, 0, 0, 0, 0, 0, 0], false⟩) 104) 0
    have hb1 := two_new2 w (.cells (Fm.cells fm0) 104) (.cells (Fm.cells ⟨i, zs.length, [0, 0, 0, 0, 0, 0, 0, 0], false⟩) 104) 0
    have hbw := two_below w (.cells (Fm.cells fm0) 104) (.cells (Fm.cells ⟨i, zs.length, [0, 0, 0, 0, 0, 0, 0, 0], false⟩) 104) 0
    obtain ⟨W3, hrun, hc1, hoth, hbl⟩ := copy_into _ (w.heap.size + 1) c i zs.length A zs h2 hb1 (HR.out.below hbw)
    have hc0 := (hoth w.heap.size (by omega)).trans hb0
    have hrun2 : (Builtin.copy_ #[34, 34] 3 #[.slice (some ⟨w.heap.size + 1, 2, none⟩) 8 8, .slice A zs.length c]).run Tryd.prog ((w.alloc (.cells #[.int .u16 0, .int .i64 0, .int .u8 0, .int .u8 0, .int .u8 0, .int .u8 0, .int .u8 0, .int .u8 0, .int .u8 0, .int .u8 0, .bool false] 104)).alloc (.cells #[.int .u16 i, .int .i64 zs.length, .int .u8 0, .int .u8 0, .int .u8 0, .int .u8 0, .int .u8 0, .int .u8 0, .int .u8 0, .int .u8 0, .bool false] 104)) = .ok (.int .i64 zs.length) W3 := hrun
    have HB := Aside0.mk (hbw.trans (hbl.mono (Nat.le_succ _)))
    have HB0 := Aside0.mk hc0
    obtain ⟨e0, e1, e2, e3, e4, e5, e6, e7, e8, e9, e10, e11⟩ := fm_at hc0
    obtain ⟨x0, x1, x2, x3, x4, x5, x6, x7, hx8⟩ := eight (d := zs ++ List.replicate (8 - zs.length) 0) (by simp; omega)
    rw [hx8] at hc1
    obtain ⟨f0, f1, f2, f3, f4, f5, f6, f7, f8, f9, f10, f11⟩ := fm_at hc1
    have HX := Aside0.mk hx8
    clear hb0 hb1 hbw hrun hc1 hoth hbl hc0 hx8
    go_enter Tryd.func127, Tryd.ntmps127
    go_wp2
    refine bodyPost_ret (fmake_res _ _ w.heap.size (Fm.cells ⟨i, zs.length, [x0, x1, x2, x3, x4, x5, x6, x7], false⟩) (.int .i64 0) rfl rfl ?_ rfl) rfl ?_
    · rw [cells11]
      exact row_fm HB0.out ..
    · rw [cells11]
      refine ⟨.inl ⟨⟨h1, h2⟩, ?_⟩, below_cells (Nat.le_refl _) _ _ HB.out⟩
      rw [mkF, HX.out]
  · have HH := Aside0.mk (show ¬ mkOk i zs from hh)
    go_enter Tryd.func127, Tryd.ntmps127
    go_wp2
    all_goals
      refine bodyPost_ret (fmake_res _ _ w.heap.size fm0.cells (.int .i64 2) rfl rfl ?_ rfl) rfl ?_
      · exact World.alloc_heap_new w _
      · exact ⟨.inr ⟨HH.out, rfl⟩, below_alloc (Below.refl _ _) _⟩
end Go.Proofs.YtokebpeplopjhaaDoor.Frm
