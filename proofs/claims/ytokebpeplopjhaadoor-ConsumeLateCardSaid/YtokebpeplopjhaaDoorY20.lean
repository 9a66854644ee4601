/- slices.Min; a producer's Due. Consumers: Tick. -/
import Derived.Test.YtokebpeplopjhaaDoorY15
import Derived.Test.YtokebpeplopjhaaDoorY14
import Derived.Test.YtokebpeplopjhaaDoorY17
import Derived.Deep.RegionHeld3
import Derived.WalkLawsBesides
import Derived.Test.YtokebpeplopjhaaDoorY19
set_option linter.unusedSimpArgs false
set_option linter.unusedVariables false
namespace Go.Proofs.YtokebpeplopjhaaDoor.Mp
open Go.RowKit Go.Shelf Go.Proofs.YtokebpeplopjhaaDoor.Rng Go.Proofs.YtokebpeplopjhaaDoorW.PrintWords Go.Proofs.YtokebpeplopjhaaDoorW.PrintMore Go.Proofs.YtokebpeplopjhaaDoorW.PrintLast

abbrev kN : Kd Int := Kd.int .i64
theorem info_i64 : (Tryd.prog.info? 2).map (fun i => (i.zero, i.size, i.bytes)) = some (some (.int .i64 0), 1, 8) := by kernel_rfl
def minL : List Int → Int
  | [] => 0
  | x :: r => r.foldl min x
theorem minL_snoc (l : List Int) (y : Int) (h : l ≠ []) : minL (l ++ [y]) = min (minL l) y := by
  cases l with
  | nil => exact absurd rfl h
  | cons x r => simp [minL, List.foldl_append]
/-- When an object would be sent. -/
def dueC (o : Option DD) (x : Ob) : Option Int :=
  if x.cm.timed = false then none else if x.sent = false then some x.at_ else if (chgC o x || x.wanted) = true then some (wrap64 (x.at_ + x.cm.inh))
  else if 0 < x.cm.ev then some (wrap64 (x.at_ + max x.cm.inh x.cm.ev)) else none
def dueL (o : Option DD) (os : Nat → Ob) : Nat → List Int
  | 0 => []
  | i + 1 => dueL o os i ++ (dueC o (os i)).toList
def dueR (l : List Int) : Int × Bool := if l = [] then (0, false) else (minL l, true)
set_option maxRecDepth 100000 in
set_option maxHeartbeats 2000000 in
theorem smin_any (A : Option Addr) (n c : Nat) (l : List Int) (w : World) (h : kN.C w A n l) (hn : l.length = n) (h0 : 0 < n) (hl : n ≤ 1000) :
    Calls Tryd.prog 106 #[.slice A n c] w fun e w' => e = .returned (.int .i64 (minL l)) ∧ w = w' := by
  obtain ⟨_, h1, h2⟩ := Kd.reads_of_C (enc := Value.int .i64) (d := (0 : Int)) (h1 := fun _ => rfl) (show kN.C w A l.length l from hn ▸ h)
  obtain ⟨ad, rfl, hc⟩ := h2 (by omega)
  have HC := Aside0.mk hc
  have HN := Aside0.mk hn
  have y0 := hc 0 (by omega)
  rw [show ad.add 0 = ad from rfl] at y0
  have HM1 := Aside0.mk (show minL (l.take 1) = l.getD 0 0 from by
    cases l with
    | nil => simp at hn; omega
    | cons x r => rfl)
  clear h h1 h2 hc hn
  go_enter Tryd.func106, Tryd.ntmps106
  go_wp2
  go_loop [3, 4] (fun m iv => ∃ (k : Nat), 1 ≤ k ∧ k ≤ n ∧ iv = .int .i64 k ∧ m = .int .i64 (minL (l.take k))) (fun _ iv => n - (intOf iv).toNat)
  case atStart => exact ⟨1, by omega, by omega, rfl, by rw [HM1.out]; first | rfl | simp [List.getD_eq_getElem?_getD]⟩
  case round =>
    obtain ⟨k, hk0, hk, rfl, rfl⟩ := hrel
    by_cases hlt : k < n
    · have yk := HC.out k (by have := HN.out; omega)
      have HS := Aside0.mk (show minL (l.take (k + 1)) = min (minL (l.take k)) (l.getD k 0) from by
        have hkl : k < l.length := by have := HN.out; omega
        rw [List.take_add_one, List.getElem?_eq_getElem hkl]
        show minL (l.take k ++ [l[k]]) = _
        rw [minL_snoc _ _ (by intro e; have h5 : (l.take k).length = 0 := congrArg List.length e; rw [List.length_take] at h5; omega), List.getD_eq_getElem?_getD, List.getElem?_eq_getElem hkl]
        rfl)
      generalize l.getD k 0 = y at yk HS
      generalize minL (l.take k) = m at HS ⊢
      have hi1 : (k : Int) < (n : Int) := by omega
      go_wp2
      all_goals
        go_round
        case rel => exact ⟨k + 1, by omega, by omega, by go_num, by rw [HS.out]; first | rfl | (congr 1; omega)⟩
        case measure => simp [intOf]; omega
    · obtain rfl : k = n := by omega
      go_wp2
      go_ret
      exact ⟨by rw [List.take_of_length_le (by have := HN.out; omega)]; rfl, rfl⟩
set_option maxRecDepth 100000 in
set_option maxHeartbeats 1000000 in
theorem least_any (A : Option Addr) (n c : Nat) (l : List Int) (w : World) (h : kN.C w A n l) (hn : l.length = n) (hl : n ≤ 1000) :
    Calls Tryd.prog 107 #[.slice A n c] w fun e w' => e = .returned (.tuple #[.int .i64 (dueR l).1, .bool (dueR l).2]) ∧ w = w' := by
  by_cases h0 : n = 0
  · subst h0
    have hl0 : l = [] := List.eq_nil_of_length_eq_zero hn
    subst hl0
    clear h hn
    go_enter Tryd.func107, Tryd.ntmps107
    go_wp2
    go_ret2
    exact ⟨rfl, rfl⟩
  · have hne : l ≠ [] := fun e => h0 (by rw [← hn, e]; rfl)
    have hd : dueR l = (minL l, true) := if_neg hne
    have HM := Aside0.mk (smin_any A n c l w h hn (by omega) hl)
    have d0 : ((n : Int) == 0) = false := by
      have : (n : Int) ≠ 0 := by omega
      simpa using this
    rw [hd]
    clear h hn hne hd
    go_enter Tryd.func107, Tryd.ntmps107
    go_wp2_with (go_at_call 106; go_loud (refine HM.out.mono ?_; rintro e w1 ⟨rfl, hw⟩; subst hw))
    go_ret2
    exact ⟨rfl, rfl⟩
set_option maxRecDepth 100000 in
set_option maxHeartbeats 8000000 in
theorem pdue_any (B : Nat) (g : Nat) (vd : Value) (o : Option DD) (os : Nat → Ob) (vm vb : Nat → Value) (n0 : Int) (w : World) (h : PrAt w g vd os vm vb true n0) (hd : DictV B w vd o) (ht : Tbl w) (hg : ∀ d, o = some d → Good d) (hmw : ∀ i, i < 8 → (∀ m ∈ (os i).maps, m.Wf) ∧ (os i).maps.length ≤ 1000) :
    Calls Tryd.prog 59 #[.pointer (some ⟨g, 0, none⟩)] w fun e w' => e = .returned (.tuple #[.int .i64 (dueR (dueL o os 8)).1, .bool (dueR (dueL o os 8)).2]) ∧ Below w.heap.size w w' := by
  have HCHA := Aside0.mk fun (i : Nat) (hi : i < 8) (X : World) (hX : Below w.heap.size w X) => pchanged_any B g vd o os vm vb true n0 i X (h.below hX) hi (hd.below hX) (ht.below hX) hg (hmw i hi).1 (hmw i hi).2
  have HYA := Aside0.mk fun (i : Nat) (hi : i < 8) (X : World) (hX : Below w.heap.size w X) => (show _ ∧ _ ∧ _ ∧ _ ∧ _ ∧ _ ∧ _ ∧ _ ∧ _ ∧ _ from ⟨pw_cell_below hX (h.ob i hi 0 _ rfl), pw_cell_below hX (h.ob i hi 1 _ rfl), pw_cell_below hX (h.ob i hi 2 _ rfl), pw_cell_below hX (h.ob i hi 3 _ rfl), pw_cell_below hX (h.ob i hi 4 _ rfl), pw_cell_below hX (h.ob i hi 5 _ rfl), pw_cell_below hX (h.ob i hi 7 _ rfl), pw_cell_below hX (h.ob i hi 9 _ rfl), pw_cell_below hX (h.ob i hi 10 _ rfl), trivial⟩)
  have c5 := h.gs
  clear h hd ht hg hmw
  go_enter Tryd.func59, Tryd.ntmps59
  go_wp2
  clear c5
  go_loopw [4, 16] (fun lv iv wr => ∃ (i : Nat), i ≤ 8 ∧ iv = .int .i64 i ∧ Aside0 (Kd.R kN 2 wr w.heap.size (fun _ => True) lv (dueL o os i)) ∧ Aside0 ((dueL o os i).length ≤ i) ∧ Aside0 (Below w.heap.size w wr)) (fun _ iv _ => 8 - (intOf iv).toNat)
  case atStart => exact ⟨0, by omega, rfl, ⟨Kd.R_nil _ _ _ _ _⟩, ⟨Nat.le_refl _⟩, ⟨Below.refl _ _⟩⟩
  case round =>
    obtain ⟨i, hi, rfl, HRO, HLN, HW⟩ := hrel
    by_cases hlt : i < 8
    · have hi1 : (i : Int) < 8 := by omega
      obtain ⟨y0, y1, y2, y3, y4, y5, y7, y9, y10, -⟩ := HYA.out i hlt wr HW.out
      rw [Nat.add_zero] at y0
      have HYI := Aside0.mk (HYA.out i hlt)
      have HCH := Aside0.mk (HCHA.out i hlt)
      have HTM := Aside0.mk (fun X => ptimed_any (os i).cm X)
      have HSZ := Aside0.mk HW.out.size
      obtain ⟨x, hx⟩ : ∃ x, os i = x := ⟨_, rfl⟩
      have HX := Aside0.mk hx
      rw [hx] at y0 y1 y2 y3 y4 y5 y7 y9 y10 HYI HCH HTM
      clear hx
      obtain ⟨tm, htm⟩ : ∃ tm, x.cm.timed = tm := ⟨_, rfl⟩
      obtain ⟨ch, hch⟩ : ∃ ch, chgC o x = ch := ⟨_, rfl⟩
      rw [htm] at HTM
      rw [hch] at HCH
      have HTC := Aside0.mk (And.intro htm hch)
      clear htm hch
      obtain ⟨⟨on, id, kind, inh, ev, st⟩, maps, sent, bts, at_, wanted, counts, begun⟩ := x
      simp only at y0 y1 y2 y3 y4 y5 y7 y9 y10 HYI
      cases tm with
      | false =>
        have HNX := Aside0.mk (show dueL o os (i + 1) = dueL o os i from by
          show dueL o os i ++ (dueC o (os i)).toList = _
          rw [HX.out]
          unfold dueC
          rw [HTC.out.1]
          simp)
        go_wp2_with (go_at_call 95; go_loud (refine (HTM.out _).mono ?_; rintro e w1 ⟨rfl, hb1⟩; have HB1 := Aside0.mk (HW.out.trans (hb1.mono HW.out.size)); obtain ⟨z0, z1, z2, z3, z4, z5, z7, z9, z10, -⟩ := HYI.out _ HB1.out; have HRW := Aside0.mk (Kd.R_below HRO.out hb1); have HWW := Aside0.mk HB1.out; have HSZ1 := Aside0.mk HB1.out.size; clear hb1))
        go_roundw
        case rel => exact ⟨i + 1, by omega, by go_num, ⟨by rw [HNX.out]; exact HRW.out⟩, ⟨by rw [HNX.out]; have := HLN.out; omega⟩, HWW⟩
        case measure => simp [intOf]; omega
      | true =>
        cases sent with
        | false =>
          have HNX := Aside0.mk (show dueL o os (i + 1) = dueL o os i ++ [at_] from by
            show dueL o os i ++ (dueC o (os i)).toList = _
            rw [HX.out]
            unfold dueC
            rw [HTC.out.1]
            simp)
          go_wp2_with (first | (go_at_call 95; go_loud (refine (HTM.out _).mono ?_; rintro e w1 ⟨rfl, hb1⟩; have HB1 := Aside0.mk (HW.out.trans (hb1.mono HW.out.size)); obtain ⟨z0, z1, z2, z3, z4, z5, z7, z9, z10, -⟩ := HYI.out _ HB1.out; have HRW := Aside0.mk (Kd.R_below HRO.out hb1); have HWW := Aside0.mk HB1.out; have HSZ1 := Aside0.mk HB1.out.size; clear hb1)) | ((with_reducible refine gate_builtin (b := .append) (xs := #[.tmp 37, .tmp 42]) rfl ?_); at_builtin; go_loud (refine Kd.R_append kN (w0 := w) w.heap.size rfl (.tmp 37) (.tmp 42) 174 2 (.int .i64 0) 8 rfl Tryd.underlying174 info_i64 rfl (by decide) (by have := HLN.out; omega) _ (dueL o os i) (at_) [.int .i64 (at_)] (fun _ => True) (fun _ => False) rfl rfl rfl (fun _ hk => hk.elim) (fun _ _ => trivial) HRW.out HWW.out HSZ1.out (by have := HLN.out; omega) ?_; intro v9 w9 hown hb hg hat; have HO9 := Aside0.mk hown; have HW9 := Aside0.mk hb; clear hown hb hg hat)))
          go_roundw
          case rel => exact ⟨i + 1, by omega, by go_num, ⟨by rw [HNX.out]; exact HO9.out⟩, ⟨by rw [HNX.out, List.length_append]; have := HLN.out; simp; omega⟩, HW9⟩
          case measure => simp [intOf]; omega
        | true =>
          obtain ⟨sv, hsv⟩ : ∃ sv, wrap64 (at_ + inh) = sv := ⟨_, rfl⟩
          obtain ⟨mv, hmv⟩ : ∃ mv, wrap64 (at_ + max inh ev) = mv := ⟨_, rfl⟩
          have HSV := Aside0.mk (And.intro hsv hmv)
          clear hsv hmv
          cases ch with
          | true =>
            have e1 : IntKind.i64.wrap (at_ + inh) = sv := by rw [i64_w]; exact HSV.out.1
            have HNX := Aside0.mk (show dueL o os (i + 1) = dueL o os i ++ [sv] from by
              show dueL o os i ++ (dueC o (os i)).toList = _
              rw [HX.out]
              unfold dueC
              rw [HTC.out.1, HTC.out.2]
              simp [HSV.out.1])
            go_wp2_with (first | (go_at_call 95; go_loud (refine (HTM.out _).mono ?_; rintro e w1 ⟨rfl, hb1⟩; have HB1 := Aside0.mk (HW.out.trans (hb1.mono HW.out.size)); obtain ⟨z0, z1, z2, z3, z4, z5, z7, z9, z10, -⟩ := HYI.out _ HB1.out; have HRW := Aside0.mk (Kd.R_below HRO.out hb1); have HWW := Aside0.mk HB1.out; have HSZ1 := Aside0.mk HB1.out.size; clear hb1)) | (go_at_call 96; go_loud (refine (HCH.out _ HB1.out).mono ?_; rintro e w3 ⟨rfl, hb3⟩; have HB3 := Aside0.mk (HB1.out.trans (hb3.mono HB1.out.size)); obtain ⟨x0, x1, x2, x3, x4, x5, x7, x9, x10, -⟩ := HYI.out _ HB3.out; have HRW3 := Aside0.mk (Kd.R_below HRW.out hb3); have HSZ3 := Aside0.mk HB3.out.size; clear hb3)))
            have u9 : ∀ X, Below w.heap.size w X → X.cell? ⟨g, 1 + i * 13 + 9, none⟩ = some (.int .i64 at_) := fun X hX => (HYI.out X hX).2.2.2.2.2.2.2.1
            have u3 : ∀ X, Below w.heap.size w X → X.cell? ⟨g, 1 + i * 13 + 3, none⟩ = some (.int .i64 inh) := fun X hX => (HYI.out X hX).2.2.2.1
            have u4 : ∀ X, Below w.heap.size w X → X.cell? ⟨g, 1 + i * 13 + 4, none⟩ = some (.int .i64 ev) := fun X hX => (HYI.out X hX).2.2.2.2.1
            have hS0 : Below w.heap.size w w3.drew := below_drew HB3.out
            clear x0 x1 x2 x3 x4 x5 x7 x9 x10 z0 z1 z2 z3 z4 z5 z7 z9 z10 y0 y1 y2 y3 y4 y5 y7 y9 y10
            go_region_held3 (fun X => Below w.heap.size w X) (first | assumption | exact hS0 | exact below_step (by assumption) (below_alloc (Below.refl _ _) _))
              (((refine Kd.R_append_step kN (w0 := w) (W := w3.drew) w.heap.size (by rfl) (.tmp 54) (.tmp 65) 174 2 (.int .i64 0) 8 rfl Tryd.underlying174 info_i64 rfl (by decide) (by have := HLN.out; omega) _ (dueL o os i) (sv) [.int .i64 (sv)] (fun _ => True) (fun _ => False) rfl rfl rfl (fun _ hk => hk.elim) (fun _ _ => trivial) (Kd.R_drew HRW3.out) (below_drew HB3.out) HB3.out.size (by have := HLN.out; omega) ?_; intro v9 w9 hown hb9 hg hat; have HO9 := Aside0.mk hown; have HW9 := Aside0.mk hb9; clear hown hg hat)))
            go_wp2
            go_roundw
            case rel => exact ⟨i + 1, by omega, by go_num, ⟨by rw [HNX.out]; exact HO9.out⟩, ⟨by rw [HNX.out, List.length_append]; have := HLN.out; simp; omega⟩, HW9⟩
            case measure => simp [intOf]; omega
          | false =>
            cases wanted with
            | true =>
              have e1 : IntKind.i64.wrap (at_ + inh) = sv := by rw [i64_w]; exact HSV.out.1
              have HNX := Aside0.mk (show dueL o os (i + 1) = dueL o os i ++ [sv] from by
                show dueL o os i ++ (dueC o (os i)).toList = _
                rw [HX.out]
                unfold dueC
                rw [HTC.out.1, HTC.out.2]
                simp [HSV.out.1])
              go_wp2_with (first | (go_at_call 95; go_loud (refine (HTM.out _).mono ?_; rintro e w1 ⟨rfl, hb1⟩; have HB1 := Aside0.mk (HW.out.trans (hb1.mono HW.out.size)); obtain ⟨z0, z1, z2, z3, z4, z5, z7, z9, z10, -⟩ := HYI.out _ HB1.out; have HRW := Aside0.mk (Kd.R_below HRO.out hb1); have HWW := Aside0.mk HB1.out; have HSZ1 := Aside0.mk HB1.out.size; clear hb1)) | (go_at_call 96; go_loud (refine (HCH.out _ HB1.out).mono ?_; rintro e w3 ⟨rfl, hb3⟩; have HB3 := Aside0.mk (HB1.out.trans (hb3.mono HB1.out.size)); obtain ⟨x0, x1, x2, x3, x4, x5, x7, x9, x10, -⟩ := HYI.out _ HB3.out; have HRW3 := Aside0.mk (Kd.R_below HRW.out hb3); have HSZ3 := Aside0.mk HB3.out.size; clear hb3)))
              have u9 : ∀ X, Below w.heap.size w X → X.cell? ⟨g, 1 + i * 13 + 9, none⟩ = some (.int .i64 at_) := fun X hX => (HYI.out X hX).2.2.2.2.2.2.2.1
              have u3 : ∀ X, Below w.heap.size w X → X.cell? ⟨g, 1 + i * 13 + 3, none⟩ = some (.int .i64 inh) := fun X hX => (HYI.out X hX).2.2.2.1
              have u4 : ∀ X, Below w.heap.size w X → X.cell? ⟨g, 1 + i * 13 + 4, none⟩ = some (.int .i64 ev) := fun X hX => (HYI.out X hX).2.2.2.2.1
              have hS0 : Below w.heap.size w w3.drew := below_drew HB3.out
              clear x0 x1 x2 x3 x4 x5 x7 x9 x10 z0 z1 z2 z3 z4 z5 z7 z9 z10 y0 y1 y2 y3 y4 y5 y7 y9 y10
              go_region_held3 (fun X => Below w.heap.size w X) (first | assumption | exact hS0 | exact below_step (by assumption) (below_alloc (Below.refl _ _) _))
                (((refine Kd.R_append_step kN (w0 := w) (W := w3.drew) w.heap.size (by rfl) (.tmp 54) (.tmp 65) 174 2 (.int .i64 0) 8 rfl Tryd.underlying174 info_i64 rfl (by decide) (by have := HLN.out; omega) _ (dueL o os i) (sv) [.int .i64 (sv)] (fun _ => True) (fun _ => False) rfl rfl rfl (fun _ hk => hk.elim) (fun _ _ => trivial) (Kd.R_drew HRW3.out) (below_drew HB3.out) HB3.out.size (by have := HLN.out; omega) ?_; intro v9 w9 hown hb9 hg hat; have HO9 := Aside0.mk hown; have HW9 := Aside0.mk hb9; clear hown hg hat)))
              go_wp2
              go_roundw
              case rel => exact ⟨i + 1, by omega, by go_num, ⟨by rw [HNX.out]; exact HO9.out⟩, ⟨by rw [HNX.out, List.length_append]; have := HLN.out; simp; omega⟩, HW9⟩
              case measure => simp [intOf]; omega
            | false =>
              by_cases hev : 0 < ev
              · have de := decide_eq_true hev
                by_cases hm : inh < ev
                · have e2 : IntKind.i64.wrap (at_ + ev) = mv := by rw [i64_w, ← HSV.out.2, Int.max_eq_right (by omega)]
                  have e3 : wrap64 (at_ + ev) = mv := by rw [← HSV.out.2, Int.max_eq_right (by omega)]
                  have HNX := Aside0.mk (show dueL o os (i + 1) = dueL o os i ++ [mv] from by
                    show dueL o os i ++ (dueC o (os i)).toList = _
                    rw [HX.out]
                    unfold dueC
                    rw [HTC.out.1, HTC.out.2]
                    simp [hev, HSV.out.2])
                  go_wp2_with (first | (go_at_call 95; go_loud (refine (HTM.out _).mono ?_; rintro e w1 ⟨rfl, hb1⟩; have HB1 := Aside0.mk (HW.out.trans (hb1.mono HW.out.size)); obtain ⟨z0, z1, z2, z3, z4, z5, z7, z9, z10, -⟩ := HYI.out _ HB1.out; have HRW := Aside0.mk (Kd.R_below HRO.out hb1); have HWW := Aside0.mk HB1.out; have HSZ1 := Aside0.mk HB1.out.size; clear hb1)) | (go_at_call 96; go_loud (refine (HCH.out _ HB1.out).mono ?_; rintro e w3 ⟨rfl, hb3⟩; have HB3 := Aside0.mk (HB1.out.trans (hb3.mono HB1.out.size)); obtain ⟨x0, x1, x2, x3, x4, x5, x7, x9, x10, -⟩ := HYI.out _ HB3.out; have HRW3 := Aside0.mk (Kd.R_below HRW.out hb3); have HSZ3 := Aside0.mk HB3.out.size; clear hb3)))
                  have u9 : ∀ X, Below w.heap.size w X → X.cell? ⟨g, 1 + i * 13 + 9, none⟩ = some (.int .i64 at_) := fun X hX => (HYI.out X hX).2.2.2.2.2.2.2.1
                  have u3 : ∀ X, Below w.heap.size w X → X.cell? ⟨g, 1 + i * 13 + 3, none⟩ = some (.int .i64 inh) := fun X hX => (HYI.out X hX).2.2.2.1
                  have u4 : ∀ X, Below w.heap.size w X → X.cell? ⟨g, 1 + i * 13 + 4, none⟩ = some (.int .i64 ev) := fun X hX => (HYI.out X hX).2.2.2.2.1
                  have hS0 : Below w.heap.size w w3.drew := below_drew HB3.out
                  clear x0 x1 x2 x3 x4 x5 x7 x9 x10 z0 z1 z2 z3 z4 z5 z7 z9 z10 y0 y1 y2 y3 y4 y5 y7 y9 y10
                  go_region_held3 (fun X => Below w.heap.size w X) (first | assumption | exact hS0 | exact below_step (by assumption) (below_alloc (Below.refl _ _) _))
                    (((refine Kd.R_append_step kN (w0 := w) (W := w3.drew) w.heap.size (by rfl) (.tmp 74) (.tmp 91) 174 2 (.int .i64 0) 8 rfl Tryd.underlying174 info_i64 rfl (by decide) (by have := HLN.out; omega) _ (dueL o os i) (mv) [.int .i64 (mv)] (fun _ => True) (fun _ => False) rfl rfl rfl (fun _ hk => hk.elim) (fun _ _ => trivial) (Kd.R_drew HRW3.out) (below_drew HB3.out) HB3.out.size (by have := HLN.out; omega) ?_; intro v9 w9 hown hb9 hg hat; have HO9 := Aside0.mk hown; have HW9 := Aside0.mk hb9; clear hown hg hat)))
                  go_wp2
                  go_roundw
                  case rel => exact ⟨i + 1, by omega, by go_num, ⟨by rw [HNX.out]; exact HO9.out⟩, ⟨by rw [HNX.out, List.length_append]; have := HLN.out; simp; omega⟩, HW9⟩
                  case measure => simp [intOf]; omega
                · have hm2 : ev ≤ inh := by omega
                  have hm3 : (inh < ev) = False := eq_false hm
                  have e2 : IntKind.i64.wrap (at_ + inh) = mv := by rw [i64_w, ← HSV.out.2, Int.max_eq_left (by omega)]
                  have e3 : wrap64 (at_ + inh) = mv := by rw [← HSV.out.2, Int.max_eq_left (by omega)]
                  have HNX := Aside0.mk (show dueL o os (i + 1) = dueL o os i ++ [mv] from by
                    show dueL o os i ++ (dueC o (os i)).toList = _
                    rw [HX.out]
                    unfold dueC
                    rw [HTC.out.1, HTC.out.2]
                    simp [hev, HSV.out.2])
                  go_wp2_with (first | (go_at_call 95; go_loud (refine (HTM.out _).mono ?_; rintro e w1 ⟨rfl, hb1⟩; have HB1 := Aside0.mk (HW.out.trans (hb1.mono HW.out.size)); obtain ⟨z0, z1, z2, z3, z4, z5, z7, z9, z10, -⟩ := HYI.out _ HB1.out; have HRW := Aside0.mk (Kd.R_below HRO.out hb1); have HWW := Aside0.mk HB1.out; have HSZ1 := Aside0.mk HB1.out.size; clear hb1)) | (go_at_call 96; go_loud (refine (HCH.out _ HB1.out).mono ?_; rintro e w3 ⟨rfl, hb3⟩; have HB3 := Aside0.mk (HB1.out.trans (hb3.mono HB1.out.size)); obtain ⟨x0, x1, x2, x3, x4, x5, x7, x9, x10, -⟩ := HYI.out _ HB3.out; have HRW3 := Aside0.mk (Kd.R_below HRW.out hb3); have HSZ3 := Aside0.mk HB3.out.size; clear hb3)))
                  have u9 : ∀ X, Below w.heap.size w X → X.cell? ⟨g, 1 + i * 13 + 9, none⟩ = some (.int .i64 at_) := fun X hX => (HYI.out X hX).2.2.2.2.2.2.2.1
                  have u3 : ∀ X, Below w.heap.size w X → X.cell? ⟨g, 1 + i * 13 + 3, none⟩ = some (.int .i64 inh) := fun X hX => (HYI.out X hX).2.2.2.1
                  have u4 : ∀ X, Below w.heap.size w X → X.cell? ⟨g, 1 + i * 13 + 4, none⟩ = some (.int .i64 ev) := fun X hX => (HYI.out X hX).2.2.2.2.1
                  have hS0 : Below w.heap.size w w3.drew := below_drew HB3.out
                  clear x0 x1 x2 x3 x4 x5 x7 x9 x10 z0 z1 z2 z3 z4 z5 z7 z9 z10 y0 y1 y2 y3 y4 y5 y7 y9 y10
                  go_region_held3 (fun X => Below w.heap.size w X) (first | assumption | exact hS0 | exact below_step (by assumption) (below_alloc (Below.refl _ _) _))
                    (((refine Kd.R_append_step kN (w0 := w) (W := w3.drew) w.heap.size (by rfl) (.tmp 74) (.tmp 91) 174 2 (.int .i64 0) 8 rfl Tryd.underlying174 info_i64 rfl (by decide) (by have := HLN.out; omega) _ (dueL o os i) (mv) [.int .i64 (mv)] (fun _ => True) (fun _ => False) rfl rfl rfl (fun _ hk => hk.elim) (fun _ _ => trivial) (Kd.R_drew HRW3.out) (below_drew HB3.out) HB3.out.size (by have := HLN.out; omega) ?_; intro v9 w9 hown hb9 hg hat; have HO9 := Aside0.mk hown; have HW9 := Aside0.mk hb9; clear hown hg hat)))
                  go_wp2
                  go_roundw
                  case rel => exact ⟨i + 1, by omega, by go_num, ⟨by rw [HNX.out]; exact HO9.out⟩, ⟨by rw [HNX.out, List.length_append]; have := HLN.out; simp; omega⟩, HW9⟩
                  case measure => simp [intOf]; omega
              · have de := decide_eq_false hev
                have HNX := Aside0.mk (show dueL o os (i + 1) = dueL o os i from by
                  show dueL o os i ++ (dueC o (os i)).toList = _
                  rw [HX.out]
                  unfold dueC
                  rw [HTC.out.1, HTC.out.2]
                  simp [hev])
                go_wp2_with (first | (go_at_call 95; go_loud (refine (HTM.out _).mono ?_; rintro e w1 ⟨rfl, hb1⟩; have HB1 := Aside0.mk (HW.out.trans (hb1.mono HW.out.size)); obtain ⟨z0, z1, z2, z3, z4, z5, z7, z9, z10, -⟩ := HYI.out _ HB1.out; have HRW := Aside0.mk (Kd.R_below HRO.out hb1); have HWW := Aside0.mk HB1.out; have HSZ1 := Aside0.mk HB1.out.size; clear hb1)) | (go_at_call 96; go_loud (refine (HCH.out _ HB1.out).mono ?_; rintro e w3 ⟨rfl, hb3⟩; have HB3 := Aside0.mk (HB1.out.trans (hb3.mono HB1.out.size)); obtain ⟨x0, x1, x2, x3, x4, x5, x7, x9, x10, -⟩ := HYI.out _ HB3.out; have HRW3 := Aside0.mk (Kd.R_below HRW.out hb3); have HSZ3 := Aside0.mk HB3.out.size; clear hb3)))
                go_roundw
                case rel => exact ⟨i + 1, by omega, by go_num, ⟨by rw [HNX.out]; exact HRW3.out⟩, ⟨by rw [HNX.out]; have := HLN.out; omega⟩, HB3⟩
                case measure => simp [intOf]; omega
    · obtain rfl : i = 8 := by omega
      have hi1 : ¬ (8 : Int) < 8 := by omega
      obtain ⟨A, c, hv, hl, hC⟩ := Kd.R_reads HRO.out
      subst hv
      obtain ⟨n, hn⟩ : ∃ n, (dueL o os 8).length = n := ⟨_, rfl⟩
      rw [hn] at hC
      have HLE := Aside0.mk (least_any A n c (dueL o os 8) wr hC hn (by have := HLN.out; omega))
      rw [hn]
      clear hC hl hn
      go_wp2_with (go_at_call 107; go_loud (refine HLE.out.mono ?_; rintro e w1 ⟨rfl, hw⟩; subst hw))
      go_ret2
      exact ⟨rfl, HW.out⟩
end Go.Proofs.YtokebpeplopjhaaDoor.Mp
namespace Go.Proofs.YtokebpeplopjhaaDoor.Mp
open Go.RowKit Go.Shelf Go.Proofs.YtokebpeplopjhaaDoor.Rng Go.Proofs.YtokebpeplopjhaaDoorW.PrintWords Go.Proofs.YtokebpeplopjhaaDoorW.PrintMore Go.Proofs.YtokebpeplopjhaaDoorW.PrintLast

/-- The objects as Tick leaves them behind i rounds; what it tells. -/
def lateN (now : Int) (os : Nat → Co) (i : Nat) : Nat → Co := fun k => if k < i ∧ (os k).cm.on = true then lateO (os k) now else os k
def lateR (os : Nat → Co) (now : Int) (i : Nat) : Option Int := if (os i).cm.on = true ∧ lateC (os i) now = true then some 0 else none
def rowsT (ps : List (Int × Int)) : List (List Value) := ps.map fun p => [.int .i64 p.1, .int .u32 p.2]
theorem Keep8.grow {w X X' : World} (h : Keep8 w X) (hf : Fr (fun k => w.heap.size ≤ k) X X') : Keep8 w X' := fun p y hp => by
  have h1 := h p y hp
  exact hf.cell h1 (Nat.not_le.2 (World.block_lt_of_cell? w _ hp))
theorem lateN_same {now : Int} {os : Nat → Co} {i k : Nat} (h : ¬ (k < i ∧ (os k).cm.on = true)) : lateN now os i k = os k := if_neg h
theorem info_int : (Tryd.prog.info? 3).map (fun i => (i.zero, i.size, i.bytes)) = some (some (.int .i64 0), 1, 8) := by kernel_rfl
theorem addr_next (ad : Addr) (n : Nat) : ad.add (n + 1) = ⟨(ad.add n).block, (ad.add n).off + 1, none⟩ := by
  unfold Addr.add
  rw [if_neg (by omega)]
  by_cases h : n = 0
  · subst h
    simp
  · rw [if_neg h]
    simp
    omega
/-- A call of a function with a body enters it. -/
theorem enter_of {F : Nat} {fn : Func} (hf : Tryd.prog.funcs[F]? = some fn) (hn : (fn.name == "runtime.NumGoroutine") = false) (hb : fn.body.isNone = false) : ∀ args X, (callFunc F args).run Tryd.prog X = .ok (.enter F args) X := fun args X => by
  have h1 : ¬ fn.name = "runtime.NumGoroutine" := by simpa using hn
  have h2 : ¬ fn.body = none := fun h => by rw [h] at hb; simp at hb
  simp [go_sem, callFunc, hf, h1, h2]
theorem tick1_enter : ∀ args X, (callFunc 101 args).run Tryd.prog X = .ok (.enter 101 args) X := enter_of Tryd.func101 (by kernel_rfl) (by kernel_rfl)
/-- What each says with Tick's closure. -/
def LateS (w : World) (g : Nat) (vd : Value) (os : Nat → Co) (vm : Nat → Value) (now : Int) (i : Nat) (X : World) : Prop := CnAt X g vd (lateN now os i) vm true ∧ Fr (fun k => k = g ∨ w.heap.size ≤ k) w X ∧ Keep8 w X
set_option maxRecDepth 100000 in
theorem ceach_tick (g Bn : Nat) (vd : Value) (os : Nat → Co) (vm : Nat → Value) (now : Int) (w : World) (h : CnAt w g vd os vm true) (hn : w.cell? ⟨Bn, 0, none⟩ = some (.int .i64 now)) (hne : Bn ≠ g) :
    Calls Tryd.prog 100 #[.pointer (some ⟨g, 0, none⟩), .func (Fn.func 101) #[] #[.pointer (some ⟨Bn, 0, none⟩)]] w (EachSaid (LateS w g vd os vm now) (lateR os now)) := by
  have hsub : ∀ i X, LateS w g vd os vm now i X → X.cell? ⟨Bn, 0, none⟩ = some (.int .i64 now) := fun i X hX => hX.2.1.cell hn (by
    have := World.block_lt_of_cell? w _ hn
    rintro (e | e)
    · exact hne e
    · simp only at e this
      omega)
  have hoff : ∀ i, (os i).cm.on = false → lateN now os (i + 1) = lateN now os i := fun i ho => funext fun k => by
    unfold lateN
    by_cases e : k = i
    · subst e
      simp [ho]
    · have : (k < i + 1) ↔ (k < i) := by omega
      simp [this]
  refine ceach_any g _ _ (LateS w g vd os vm now) (fun i => (os i).cm.on) (lateR os now) w tick1_enter ?_ h.gs ?_ ?_ ?_ ?_ ?_
  · exact ⟨by rw [show lateN now os 0 = os from funext fun k => lateN_same (by omega)]; exact h, Fr.refl _ _, fun _ _ h => h⟩
  · intro i X hi hX
    have h1 := hX.1.ob i hi 0 _ rfl
    rw [lateN_same (by omega)] at h1
    exact h1
  · intro i X hi ho hX
    exact ⟨by rw [hoff i ho]; exact hX.1, hX.2⟩
  · intro i hi ho
    exact if_neg (fun h => by rw [ho] at h; exact absurd h.1 (by simp))
  · intro i X hi ho hX
    refine (ctick_any g Bn vd (lateN now os i) vm true now i X hX.1 hi (hsub i X hX)).mono ?_
    rintro e X' ⟨rfl, h1, h2, h3⟩
    have hoi : lateN now os i i = os i := lateN_same (by omega)
    rw [hoi] at h1 ⊢
    have hu : upd (lateN now os i) i (lateO (os i) now) = lateN now os (i + 1) := funext fun k => by
      by_cases e : k = i
      · subst e
        rw [upd_same]
        exact (if_pos ⟨Nat.lt_succ_self _, ho⟩).symm
      · rw [upd_ne _ _ e]
        unfold lateN
        have : (k < i + 1) ↔ (k < i) := by omega
        simp [this]
    rw [hu] at h1
    have hg := h.lt
    refine ⟨⟨0, ?_⟩, ⟨h1, hX.2.1.trans (h2.mono (fun k e => .inl e)), hX.2.2.trans h3⟩, h2.size, .inr (h2.mono (fun k e => by have : k = g := e; omega))⟩
    cases hl : lateC (os i) now with
    | true => exact .inl ⟨rfl, if_pos ⟨ho, hl⟩⟩
    | false => exact .inr ⟨rfl, if_neg (fun h => by rw [hl] at h; exact absurd h.2 (by simp))⟩
  · intro i X X' _ _ hX hs hf _
    refine ⟨hX.1.grow h (fun k hk => ?_) hf, hX.2.1.trans (hf.mono (fun k e => .inr e)), hX.2.2.grow hf⟩
    unfold lateN
    split <;> rfl
set_option maxRecDepth 100000 in
set_option maxHeartbeats 4000000 in
theorem cTick_any (g : Nat) (vd : Value) (os : Nat → Co) (vm : Nat → Value) (now : Int) (ps : List (Int × Int)) (w : World) (h : CnAt w g vd os vm true) (htm : timeC now) (hps : toldL (lateR os now) 8 = rowsT ps) :
    Calls Tryd.prog 54 #[.pointer (some ⟨g, 0, none⟩), .int .i64 now] w fun e w' => ∃ A c, e = .returned (.slice A ps.length c) ∧ kN.C w' A ps.length (ps.map Prod.fst) ∧ CnAt w' g vd (lateN now os 8) vm true ∧ Fr (fun k => k = g) w w' ∧ Keep8 w w' := by
  have hgl := h.lt
  have hb1 : Below w.heap.size w (w.alloc (.cells #[.int .i64 now] 2)) := below_alloc (Below.refl _ _) _
  have hn := Go.Proofs.YtokebpeplopjhaaDoorW.PrintWords.blk_cell (blk_new w (.cells #[.int .i64 now] 2)) 0
  have HE := Aside0.mk (ceach_tick g w.heap.size vd os vm now _ (h.below hb1) hn (by omega))
  have HB1 := Aside0.mk hb1
  have HT := Aside0.mk (decide_eq_true htm)
  have hl : (rowsT ps).length = ps.length := by simp [rowsT]
  have HL := Aside0.mk (And.intro hl (show ps.length ≤ 8 by have := told_len (lateR os now) 8; rw [hps] at this; omega))
  have HPS := Aside0.mk hps
  clear h htm hb1 hn hl hps
  go_enter Tryd.func54, Tryd.ntmps54
  have hmf : ∀ (fn : Fn) (first cap : Array Value) (w : World), (Instr.makeFunc fn first cap).run Tryd.prog w = .ok (.func fn first cap) w := fun _ _ _ _ => rfl
  go_wp2_with (first
    | (go_at_call 99; refine (ctime_any _ _).mono ?_; rw [HT.out]; rintro e w2 ⟨rfl, hw⟩; have hw := hw.symm; subst hw)
    | (go_at_call 100; go_loud (refine HE.out.mono ?_; rintro e w2 ⟨A, c, rfl, hC, hS⟩; rw [HPS.out] at hC ⊢; rw [HL.out.1] at hC ⊢; have HC := Aside0.mk hC; have HS := Aside0.mk hS; clear hC hS)))
  obtain ⟨m, hm⟩ : ∃ m, ps.length = m := ⟨_, rfl⟩
  have HM := Aside0.mk hm
  rw [hm] at HC HL ⊢
  clear hm
  go_loopw [5, 15] (fun ov iv wr => ∃ (k : Nat), k ≤ m ∧ iv = .int .i64 k ∧ Aside0 (Kd.R kN 3 wr w2.heap.size (fun _ => True) ov ((ps.map Prod.fst).take k)) ∧ Aside0 (Below w2.heap.size w2 wr)) (fun _ iv _ => m - (intOf iv).toNat)
  case atStart => exact ⟨0, by omega, rfl, ⟨Kd.R_nil _ _ _ _ _⟩, ⟨Below.refl _ _⟩⟩
  case round =>
    obtain ⟨k, hk, rfl, HRO, HBW⟩ := hrel
    by_cases hlt : k < m
    · have hi1 : (k : Int) < (m : Int) := by omega
      obtain ⟨p, hp⟩ : ∃ p, ps[k]? = some p := ⟨_, List.getElem?_eq_getElem (by have := HM.out; omega)⟩
      obtain ⟨ad, rfl, hcc⟩ := HC.out.2.2 (by omega)
      obtain ⟨cs, hcl, ⟨rfl, -, -⟩, hcell⟩ := hcc k [.int .i64 p.1, .int .u32 p.2] (by unfold rowsT; rw [List.getElem?_map, hp]; rfl)
      have q0 := pw_cell_below HBW.out (hcell 0 _ rfl)
      have q1 := pw_cell_below HBW.out (hcell 1 _ rfl)
      rw [show kTold.sz = 2 from rfl, Nat.add_zero] at q0
      rw [show kTold.sz = 2 from rfl, addr_next] at q1
      have HP := Aside0.mk hp
      clear hp hcc hcl hcell
      have HLT := Aside0.mk hlt
      have hk8 : k < 8 := by have := HL.out.2; omega
      obtain ⟨p1, p2⟩ := p
      simp only at q0 q1
      have hb7 : Below wr.heap.size wr (wr.alloc (.cells #[.int .i64 p1, .int .u32 p2] 118)) := below_alloc (Below.refl _ _) _
      have HRX := Aside0.mk (Kd.R_below HRO.out hb7)
      have HSX := Aside0.mk (Nat.le_trans HBW.out.size hb7.size)
      have HB7 := Aside0.mk (HBW.out.trans (hb7.mono HBW.out.size))
      have HLN := Aside0.mk (show (((ps.map Prod.fst).take k).length + 1) * 8 ≤ 140737488355328 by have := HL.out.2; rw [List.length_take]; omega)
      clear hb7
      go_wp2_with ((with_reducible refine gate_dst (N := 23) rfl ?_); refine Kd.R_append kN (w0 := wr.alloc (.cells #[.int .i64 p1, .int .u32 p2] 118)) w2.heap.size rfl (.tmp 19) (.tmp 22) 97 3 (.int .i64 0) 8 rfl Tryd.underlying97 info_int rfl (by decide) (by have := HLN.out; omega) _ ((ps.map Prod.fst).take k) p1 [.int .i64 p1] (fun _ => True) (fun _ => False) (by first | rfl | simp [Act.eval]) (by first | rfl | simp [Act.eval]) rfl (fun _ hk => hk.elim) (fun _ _ => trivial) HRX.out (Below.refl _ _) HSX.out (by have := HLN.out; omega) ?_; intro v8 w8 hown hb hg hat; have HR8 := Aside0.mk hown; have HB8 := Aside0.mk (HB7.out.trans hb); clear hown hb hg hat)
      go_roundw
      case rel => exact ⟨k + 1, by have := HLT.out; omega, by go_num, ⟨by
        have h := HR8.out
        have h2 : (ps.map Prod.fst).take (k + 1) = (ps.map Prod.fst).take k ++ [p1] := by
          rw [List.take_add_one, List.getElem?_map, HP.out]
          rfl
        rw [h2]
        exact h⟩, HB8⟩
      case measure => have := HLT.out; simp [intOf]; omega
    · obtain rfl : k = m := by omega
      have hi1 : ¬ (k : Int) < (k : Int) := by omega
      obtain ⟨A', c', hv, hl, hC⟩ := Kd.R_reads HRO.out
      have hfull : (ps.map Prod.fst).take k = ps.map Prod.fst := List.take_of_length_le (by rw [List.length_map]; have := HM.out; omega)
      rw [hfull, List.length_map, HM.out] at hv hC
      subst hv
      have HC2 := Aside0.mk hC
      clear hC hl hfull
      go_wp2
      go_ret
      have hS := HS.out
      have hsz : (w.alloc (.cells #[.int .i64 now] 2)).heap.size = w.heap.size + 1 := by simp
      have hgl' := hgl
      refine ⟨A', ⟨c', by rw [HM.out]; rfl⟩, by rw [HM.out]; exact HC2.out, hS.1.below HBW.out, ?_, (Keep8.below HB1.out).trans (hS.2.2.trans (Keep8.below HBW.out))⟩
      exact ((Fr.of_below (M := fun k => k = g ∨ w.heap.size + 1 ≤ k) HB1.out).trans ((hsz ▸ hS.2.1).trans (Fr.of_below HBW.out))).weak (fun k hk e => by rcases e with e | e; exact e; omega)
end Go.Proofs.YtokebpeplopjhaaDoor.Mp
