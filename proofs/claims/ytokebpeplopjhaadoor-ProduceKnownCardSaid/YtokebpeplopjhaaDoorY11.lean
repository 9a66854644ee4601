/- Producers: is an object sent at a beat? Producers: each object at a beat. Producers: Sync; a producer of one object at a beat; ProduceBeats, plainly. -/
import Derived.Test.YtokebpeplopjhaaDoorY10
import Derived.StillTailTactics
import Derived.Deep.RegionHeld3
import Derived.RegionTactic
import Derived.BigRegion
import Derived.Deep.DeepCutAuto
set_option linter.unusedSimpArgs false
set_option linter.unusedVariables false
namespace Go.Proofs.YtokebpeplopjhaaDoor.Mp
open Go.RowKit Go.Shelf Go.Proofs.YtokebpeplopjhaaDoor.Rng Go.Proofs.YtokebpeplopjhaaDoorW.PrintWords Go.Proofs.YtokebpeplopjhaaDoorW.PrintMore Go.Proofs.YtokebpeplopjhaaDoorW.PrintLast

/-- What an object is behind a beat, and is it sent? -/
def syncC (o : Option DD) (x : Ob) (count : Int) : Ob × Bool :=
  if x.cm.kind = 0 then (x, chgC o x || x.wanted) else if 240 < x.cm.kind then (x, false)
  else if x.begun = false then ({ x with begun := decide (count = 0 ∨ count = x.cm.st), counts := 0 }, decide (count = 0 ∨ count = x.cm.st))
  else ({ x with counts := (x.counts + 1) % x.cm.kind }, decide ((x.counts + 1) % x.cm.kind = 0))
def SyncSaid (w : World) (g : Nat) (vd : Value) (os : Nat → Ob) (vm vb : Nat → Value) (goes : Bool) (n0 : Int) (i : Nat) (r : Ob × Bool) (e : Ending) (w' : World) : Prop := e = .returned (.bool r.2) ∧ PrAt w' g vd (upd os i r.1) vm vb goes n0 ∧ Fr (fun k => k = g) w w' ∧ Keep8 w w'
theorem PrAt.store1 {w : World} {g : Nat} {vd : Value} {os : Nat → Ob} {vm vb : Nat → Value} {goes : Bool} {n0 : Int} (h : PrAt w g vd os vm vb goes n0) {i : Nat} (hi : i < 8) (x : Ob) (k : Int) (bg : Bool) (hx : os i = { x with counts := k, begun := bg }) (k2 : Int) : PrAt (w.setCell ⟨g, 1 + i * 13 + 11, none⟩ (.int .i64 k2)) g vd (upd os i { x with counts := k2, begun := bg }) vm vb goes n0 := by
  have h1 := h.store hi (t := 11) [.int .i64 k2] (by simp) { x with counts := k2, begun := bg } (vm i) (vb i) (fun j u hu => ?_) (by have := h.ms i hi; rw [hx] at this; exact this) (by have := h.bs i hi; rw [hx] at this; exact this)
  · rw [upd_id, upd_id] at h1
    exact h1
  · have hj : j < 13 := (List.getElem?_eq_some_iff.1 hu).1
    rw [hx]
    match j, hj, hu with
    | 0, _, hu => exact .inr ⟨.inl (by omega), hu⟩
    | 1, _, hu => exact .inr ⟨.inl (by omega), hu⟩
    | 2, _, hu => exact .inr ⟨.inl (by omega), hu⟩
    | 3, _, hu => exact .inr ⟨.inl (by omega), hu⟩
    | 4, _, hu => exact .inr ⟨.inl (by omega), hu⟩
    | 5, _, hu => exact .inr ⟨.inl (by omega), hu⟩
    | 6, _, hu => exact .inr ⟨.inl (by omega), hu⟩
    | 7, _, hu => exact .inr ⟨.inl (by omega), hu⟩
    | 8, _, hu => exact .inr ⟨.inl (by omega), hu⟩
    | 9, _, hu => exact .inr ⟨.inl (by omega), hu⟩
    | 10, _, hu => exact .inr ⟨.inl (by omega), hu⟩
    | 11, _, hu => exact .inl ⟨by omega, by simp, hu⟩
    | 12, _, hu => exact .inr ⟨.inr (by simp), hu⟩
theorem PrAt.store2 {w : World} {g : Nat} {vd : Value} {os : Nat → Ob} {vm vb : Nat → Value} {goes : Bool} {n0 : Int} (h : PrAt w g vd os vm vb goes n0) {i : Nat} (hi : i < 8) (x : Ob) (k : Int) (bg : Bool) (hx : os i = { x with counts := k, begun := bg }) (bg2 : Bool) : PrAt (w.setCell ⟨g, 1 + i * 13 + 12, none⟩ (.bool bg2)) g vd (upd os i { x with counts := k, begun := bg2 }) vm vb goes n0 := by
  have h1 := h.store hi (t := 12) [.bool bg2] (by simp) { x with counts := k, begun := bg2 } (vm i) (vb i) (fun j u hu => ?_) (by have := h.ms i hi; rw [hx] at this; exact this) (by have := h.bs i hi; rw [hx] at this; exact this)
  · rw [upd_id, upd_id] at h1
    exact h1
  · have hj : j < 13 := (List.getElem?_eq_some_iff.1 hu).1
    rw [hx]
    match j, hj, hu with
    | 0, _, hu => exact .inr ⟨.inl (by omega), hu⟩
    | 1, _, hu => exact .inr ⟨.inl (by omega), hu⟩
    | 2, _, hu => exact .inr ⟨.inl (by omega), hu⟩
    | 3, _, hu => exact .inr ⟨.inl (by omega), hu⟩
    | 4, _, hu => exact .inr ⟨.inl (by omega), hu⟩
    | 5, _, hu => exact .inr ⟨.inl (by omega), hu⟩
    | 6, _, hu => exact .inr ⟨.inl (by omega), hu⟩
    | 7, _, hu => exact .inr ⟨.inl (by omega), hu⟩
    | 8, _, hu => exact .inr ⟨.inl (by omega), hu⟩
    | 9, _, hu => exact .inr ⟨.inl (by omega), hu⟩
    | 10, _, hu => exact .inr ⟨.inl (by omega), hu⟩
    | 11, _, hu => exact .inr ⟨.inl (by omega), hu⟩
    | 12, _, hu => exact .inl ⟨by omega, by simp, hu⟩
theorem set_other {w : World} {g a b : Nat} {v : Value} (h : a ≠ b) : (w.setCell ⟨g, a, none⟩ v).cell? ⟨g, b, none⟩ = w.cell? ⟨g, b, none⟩ := World.cell?_setCell_other _ _ _ _ (by intro e; injection e with _ e _; exact h e)
theorem sync_end1 {w : World} {g : Nat} {vd : Value} {os : Nat → Ob} {vm vb : Nat → Value} {goes : Bool} {n0 : Int} {i : Nat} (hi : i < 8) (h : PrAt w g vd os vm vb goes n0) {c : Cm} {maps : List Mp} {sent : Bool} {bts : List Int} {at_ : Int} {wanted : Bool} {counts : Int} {b0 : Bool} (hx : os i = ⟨c, maps, sent, bts, at_, wanted, counts, b0⟩) (y11 : w.cell? ⟨g, 1 + i * 13 + 11, none⟩ = some (.int .i64 counts)) (y12 : w.cell? ⟨g, 1 + i * 13 + 12, none⟩ = some (.bool b0)) (r : Bool) :
    SyncSaid w g vd os vm vb goes n0 i (⟨c, maps, sent, bts, at_, wanted, 0, r⟩, r) (.returned (.bool r)) ((w.setCell ⟨g, 1 + i * 13 + 12, none⟩ (.bool r)).setCell ⟨g, 1 + i * 13 + 11, none⟩ (.int .i64 0)).drew := by
  have h1 := h.store2 hi ⟨c, maps, sent, bts, at_, wanted, counts, b0⟩ counts b0 hx r
  have h2 := h1.store1 hi ⟨c, maps, sent, bts, at_, wanted, counts, b0⟩ counts r (upd_same _ _ _) 0
  rw [upd_upd] at h2
  exact ⟨rfl, h2.below (below_drew (Below.refl _ _)), ((Fr.setCell (M := fun k => k = g) _ _ _ (.inl rfl)).trans (Fr.setCell (M := fun k => k = g) _ _ _ (.inl rfl))).trans (Fr.of_below (below_drew (Below.refl _ _))), ((keep_set y12 (fun y => by simp)).trans (keep_set (u := .int .i64 counts) ((set_other (by omega)).trans y11) (fun y => by simp))).trans (Keep8.below (below_drew (Below.refl _ _)))⟩
theorem sync_end2 {w : World} {g : Nat} {vd : Value} {os : Nat → Ob} {vm vb : Nat → Value} {goes : Bool} {n0 : Int} {i : Nat} (hi : i < 8) (h : PrAt w g vd os vm vb goes n0) {c : Cm} {maps : List Mp} {sent : Bool} {bts : List Int} {at_ : Int} {wanted : Bool} {counts : Int} {b0 : Bool} (hx : os i = ⟨c, maps, sent, bts, at_, wanted, counts, b0⟩) (y11 : w.cell? ⟨g, 1 + i * 13 + 11, none⟩ = some (.int .i64 counts)) (y12 : w.cell? ⟨g, 1 + i * 13 + 12, none⟩ = some (.bool b0)) (r : Bool) :
    SyncSaid w g vd os vm vb goes n0 i (⟨c, maps, sent, bts, at_, wanted, 0, r⟩, r) (.returned (.bool r)) ((w.setCell ⟨g, 1 + i * 13 + 11, none⟩ (.int .i64 0)).setCell ⟨g, 1 + i * 13 + 12, none⟩ (.bool r)).drew := by
  have h1 := h.store1 hi ⟨c, maps, sent, bts, at_, wanted, counts, b0⟩ counts b0 hx 0
  have h2 := h1.store2 hi ⟨c, maps, sent, bts, at_, wanted, counts, b0⟩ 0 b0 (upd_same _ _ _) r
  rw [upd_upd] at h2
  exact ⟨rfl, h2.below (below_drew (Below.refl _ _)), ((Fr.setCell (M := fun k => k = g) _ _ _ (.inl rfl)).trans (Fr.setCell (M := fun k => k = g) _ _ _ (.inl rfl))).trans (Fr.of_below (below_drew (Below.refl _ _))), ((keep_set y11 (fun y => by simp)).trans (keep_set (u := .bool b0) ((set_other (by omega)).trans y12) (fun y => by simp))).trans (Keep8.below (below_drew (Below.refl _ _)))⟩
theorem beq_dec (a b : Int) : (a == b) = decide (a = b) := by
  rw [Bool.eq_iff_iff]
  simp
set_option maxRecDepth 100000 in
set_option maxHeartbeats 4000000 in
theorem psync1_any (B : Nat) (g Bn Bp : Nat) (vd : Value) (o : Option DD) (os : Nat → Ob) (vm vb : Nat → Value) (goes : Bool) (n0 count : Int) (i : Nat) (w : World) (h : PrAt w g vd os vm vb goes n0) (hi : i < 8) (hd : DictV B w vd o) (ht : Tbl w) (hg : ∀ d, o = some d → Good d) (hmw : ∀ m ∈ (os i).maps, m.Wf) (hml : (os i).maps.length ≤ 1000) (hn : w.cell? ⟨Bn, 0, none⟩ = some (.int .u8 count)) (hp : w.cell? ⟨Bp, 0, none⟩ = some (.pointer (some ⟨g, 0, none⟩))) (hbx : Bn ≠ g ∧ Bp ≠ g) (hk : 0 ≤ (os i).cm.kind ∧ (os i).cm.kind < 256) (hc : 0 ≤ (os i).counts ∧ (os i).counts < 1000) :
    Calls Tryd.prog 97 #[.pointer (some ⟨g, 1 + i * 13, none⟩), .pointer (some ⟨Bp, 0, none⟩), .pointer (some ⟨Bn, 0, none⟩)] w (SyncSaid w g vd os vm vb goes n0 i (syncC o (os i) count)) := by
  have HCH := Aside0.mk fun (X : World) (hX : Below w.heap.size w X) => pchanged_any B g vd o os vm vb goes n0 i X (h.below hX) hi (hd.below hX) (ht.below hX) hg hmw hml
  have HP := Aside0.mk h
  have hob := h.ob i hi
  have hfz := h.fz
  have y2 := hob 2 _ rfl
  have y5 := hob 5 _ rfl
  have y10 := hob 10 _ rfl
  have y11 := hob 11 _ rfl
  have y12 := hob 12 _ rfl
  have f11 := hfz (1 + i * 13 + 11)
  have f12 := hfz (1 + i * 13 + 12)
  obtain ⟨x, hx⟩ : ∃ x, os i = x := ⟨_, rfl⟩
  rw [hx] at HCH y2 y5 y10 y11 y12 hk hc ⊢
  have HX := Aside0.mk hx
  have HB := Aside0.mk hbx
  obtain ⟨⟨on, id, kind, inh, ev, st⟩, maps, sent, bts, at_, wanted, counts, begun⟩ := x
  simp only at y2 y5 y10 y11 y12 hk hc
  obtain ⟨hk0, hk1⟩ := hk
  obtain ⟨hc0, hc1⟩ := hc
  clear h hd ht hg hmw hml hob hfz hbx hx
  by_cases h0 : kind = 0
  · subst h0
    have hr : syncC o ⟨⟨on, id, 0, inh, ev, st⟩, maps, sent, bts, at_, wanted, counts, begun⟩ count = (⟨⟨on, id, 0, inh, ev, st⟩, maps, sent, bts, at_, wanted, counts, begun⟩, chgC o ⟨⟨on, id, 0, inh, ev, st⟩, maps, sent, bts, at_, wanted, counts, begun⟩ || wanted) := if_pos rfl
    rw [hr]
    obtain ⟨ch, hch⟩ : ∃ ch, chgC o ⟨⟨on, id, 0, inh, ev, st⟩, maps, sent, bts, at_, wanted, counts, begun⟩ = ch := ⟨_, rfl⟩
    rw [hch] at HCH ⊢
    have HY := Aside0.mk y10
    clear hch hr
    cases ch with
    | true =>
      go_enter Tryd.func97, Tryd.ntmps97
      go_wp2_with (go_at_call 96; refine (HCH.out _ (Below.refl _ _)).mono ?_; rintro e w1 ⟨rfl, hb1⟩; have HB1 := Aside0.mk hb1; have z10 := pw_cell_below hb1 HY.out; clear hb1)
      go_ret
      exact ⟨by simp, by rw [← HX.out, upd_id]; exact HP.out.below HB1.out, Fr.of_below HB1.out, Keep8.below HB1.out⟩
    | false =>
      go_enter Tryd.func97, Tryd.ntmps97
      go_wp2_with (go_at_call 96; refine (HCH.out _ (Below.refl _ _)).mono ?_; rintro e w1 ⟨rfl, hb1⟩; have HB1 := Aside0.mk hb1; have z10 := pw_cell_below hb1 HY.out; clear hb1)
      go_ret
      exact ⟨by simp, by rw [← HX.out, upd_id]; exact HP.out.below HB1.out, Fr.of_below HB1.out, Keep8.below HB1.out⟩
  · by_cases h1 : 240 < kind
    · have hr : syncC o ⟨⟨on, id, kind, inh, ev, st⟩, maps, sent, bts, at_, wanted, counts, begun⟩ count = (⟨⟨on, id, kind, inh, ev, st⟩, maps, sent, bts, at_, wanted, counts, begun⟩, false) := by
        unfold syncC
        rw [if_neg h0, if_pos h1]
      rw [hr]
      have d0 : (kind == 0) = false := by simpa using h0
      have d1 := decide_eq_true h1
      clear hr
      go_enter Tryd.func97, Tryd.ntmps97
      go_wp2
      go_ret
      exact ⟨rfl, by rw [← HX.out, upd_id]; exact HP.out, Fr.refl _ _, fun p y h => h⟩
    · have d0 : (kind == 0) = false := by simpa using h0
      have d1 := decide_eq_false h1
      cases begun with
      | false =>
        obtain ⟨r, hrr⟩ : ∃ r, decide (count = 0 ∨ count = st) = r := ⟨_, rfl⟩
        have hr : syncC o ⟨⟨on, id, kind, inh, ev, st⟩, maps, sent, bts, at_, wanted, counts, false⟩ count = (⟨⟨on, id, kind, inh, ev, st⟩, maps, sent, bts, at_, wanted, 0, r⟩, r) := by
          unfold syncC
          rw [if_neg h0, if_neg h1, if_pos rfl, hrr]
        rw [hr]
        have HR := Aside0.mk hrr
        have HZ := Aside0.mk (And.intro y11 y12)
        clear hr hrr
        by_cases hc2 : count = 0
        · have dc : (count == 0) = true := by simpa using hc2
          have hrt : r = true := by rw [← HR.out]; exact decide_eq_true (.inl hc2)
          subst hrt
          subst hc2
          go_enter Tryd.func97, Tryd.ntmps97
          go_wp2
          go_region
          all_goals
            go_wp2
            go_ret
            first
              | exact sync_end1 hi HP.out HX.out HZ.out.1 HZ.out.2 true
              | exact sync_end2 hi HP.out HX.out HZ.out.1 HZ.out.2 true
        · have dc : (count == 0) = false := by simpa using hc2
          by_cases hc3 : count = st
          · have dt : (count == st) = true := by simpa using hc3
            have hrt : r = true := by rw [← HR.out]; exact decide_eq_true (.inr hc3)
            subst hrt
            subst hc3
            go_enter Tryd.func97, Tryd.ntmps97
            go_wp2
            go_region
            all_goals
              go_wp2
              go_ret
              first
                | exact sync_end1 hi HP.out HX.out HZ.out.1 HZ.out.2 true
                | exact sync_end2 hi HP.out HX.out HZ.out.1 HZ.out.2 true
          · have dt : (count == st) = false := by simpa using hc3
            have hrt : r = false := by rw [← HR.out]; exact decide_eq_false (fun h => h.elim hc2 hc3)
            subst hrt
            go_enter Tryd.func97, Tryd.ntmps97
            go_wp2
            go_region
            all_goals
              go_wp2
              go_ret
              first
                | exact sync_end1 hi HP.out HX.out HZ.out.1 HZ.out.2 false
                | exact sync_end2 hi HP.out HX.out HZ.out.1 HZ.out.2 false
      | true =>
        have hr : syncC o ⟨⟨on, id, kind, inh, ev, st⟩, maps, sent, bts, at_, wanted, counts, true⟩ count = (⟨⟨on, id, kind, inh, ev, st⟩, maps, sent, bts, at_, wanted, (counts + 1) % kind, true⟩, decide ((counts + 1) % kind = 0)) := by
          unfold syncC
          rw [if_neg h0, if_neg h1, if_neg (by simp)]
        rw [hr]
        have e1 : Int.tmod (counts + 1) kind = (counts + 1) % kind := Int.tmod_eq_emod_of_nonneg (by omega)
        obtain ⟨c2, hc2⟩ : ∃ c2, (counts + 1) % kind = c2 := ⟨_, rfl⟩
        have e2 : IntKind.i64.wrap (counts + 1) = counts + 1 := by rw [i64_w]; unfold wrap64; omega
        rw [hc2] at e1 ⊢
        have hkp : 0 < kind := by omega
        have hc20 : 0 ≤ c2 ∧ c2 < 256 := by
          have a1 := Int.emod_nonneg (counts + 1) (show kind ≠ 0 by omega)
          have a2 := Int.emod_lt_of_pos (counts + 1) hkp
          omega
        obtain ⟨hc21, hc22⟩ := hc20
        have hkn : kind ≠ 0 := h0
        have e4 : IntKind.i64.wrap kind = kind := by rw [i64_w]; unfold wrap64; omega
        have e3 : IntKind.i64.wrap c2 = c2 := by rw [i64_w]; unfold wrap64; omega
        clear hr
        go_enter Tryd.func97, Tryd.ntmps97
        go_wp2
        go_still_tail 15, (by kernel_rfl)
        change wpList _ _ _ _ _ w.drew
        have HPD := Aside0.mk (HP.out.below (below_drew (Below.refl _ _)))
        have z11 : w.drew.cell? ⟨g, 1 + i * 13 + 11, none⟩ = some (.int .i64 counts) := y11
        have g11 : w.drew.frozen? ⟨g, 1 + i * 13 + 11, none⟩ = false := f11
        have HFD := Aside0.mk (show Fr (fun k => k = g) w w.drew from Fr.of_below (below_drew (Below.refl _ _)))
        have HKD := Aside0.mk (show Keep8 w w.drew from Keep8.below (below_drew (Below.refl _ _)))
        clear hn hp y2 y5 y10 y11 y12 f11 f12
        generalize w.drew = wd at HPD z11 g11 HFD HKD ⊢
        go_wp2
        go_ret
        have hP := HPD.out.store1 hi ⟨⟨on, id, kind, inh, ev, st⟩, maps, sent, bts, at_, wanted, counts, true⟩ counts true HX.out c2
        exact ⟨by rw [beq_dec]; rfl, hP, HFD.out.trans (Fr.setCell (M := fun k => k = g) _ _ _ (.inl rfl)), HKD.out.trans (keep_set z11 (fun y => by simp))⟩
end Go.Proofs.YtokebpeplopjhaaDoor.Mp
namespace Go.Proofs.YtokebpeplopjhaaDoor.Mp
open Go.RowKit Go.Shelf Go.Proofs.YtokebpeplopjhaaDoor.Rng Go.Proofs.YtokebpeplopjhaaDoorW.PrintWords Go.Proofs.YtokebpeplopjhaaDoorW.PrintMore Go.Proofs.YtokebpeplopjhaaDoorW.PrintLast

theorem sync_same (o : Option DD) (x : Ob) (count : Int) : (syncC o x count).1.cm = x.cm ∧ (syncC o x count).1.maps = x.maps ∧ (syncC o x count).1.bts = x.bts := by
  unfold syncC
  split
  · exact ⟨rfl, rfl, rfl⟩
  · split
    · exact ⟨rfl, rfl, rfl⟩
    · split <;> exact ⟨rfl, rfl, rfl⟩
/-- The objects behind a beat; what is sent. -/
def beatO (o : Option DD) (now count : Int) (os : Nat → Ob) (i : Nat) : Nat → Ob := fun k => if k < i ∧ (os k).cm.on = true then (if (syncC o (os k) count).2 = true then sentC o (syncC o (os k) count).1 now else (syncC o (os k) count).1) else os k
def beatF (o : Option DD) (count : Int) (os : Nat → Ob) : Nat → List Frm.Fm
  | 0 => []
  | i + 1 => beatF o count os i ++ if (os i).cm.on = true ∧ (syncC o (os i) count).2 = true then [frC o (syncC o (os i) count).1] else []
theorem beatO_same {o : Option DD} {now count : Int} {os : Nat → Ob} {i k : Nat} (h : ¬ (k < i ∧ (os k).cm.on = true)) : beatO o now count os i k = os k := if_neg h
theorem beatO_next {o : Option DD} {now count : Int} {os : Nat → Ob} {i k : Nat} (e : k ≠ i) : beatO o now count os (i + 1) k = beatO o now count os i k := by
  unfold beatO
  by_cases hk : k < i
  · simp [hk, Nat.lt_succ_of_lt hk]
  · simp [hk, show ¬ k < i + 1 by omega]
set_option maxRecDepth 100000 in
set_option maxHeartbeats 8000000 in
theorem peach_sync (B g gd bi bs Bn Bp : Nat) (d : DD) (os : Nat → Ob) (vm vb : Nat → Value) (n0 now count : Int) (w : World) (h : PrAt w g (.pointer (some ⟨gd, 0, none⟩)) os vm vb true n0) (hD : DictB B w gd bi bs d) (hne : gd ≠ g ∧ bi ≠ g ∧ bs ≠ g) (hG : Good d) (ht : TblB B w) (hBg : B ≤ g) (hmw : ∀ i, i < 8 → (∀ m ∈ (os i).maps, m.Wf) ∧ (os i).maps.length ≤ 1000) (hn : w.cell? ⟨Bn, 0, none⟩ = some (.int .u8 count)) (hp : w.cell? ⟨Bp, 0, none⟩ = some (.pointer (some ⟨g, 0, none⟩))) (hbx : Bn ≠ g ∧ Bp ≠ g) (hid : ∀ i, i < 8 → 0 ≤ (os i).cm.id) (htm : timeC now) (hkc : ∀ i, i < 8 → (os i).cm.on = true → (0 ≤ (os i).cm.kind ∧ (os i).cm.kind < 256) ∧ 0 ≤ (os i).counts ∧ (os i).counts < 1000) :
    Calls Tryd.prog 93 #[.pointer (some ⟨g, 0, none⟩), .int .i64 now, .func (Fn.func 97) #[] #[.pointer (some ⟨Bp, 0, none⟩), .pointer (some ⟨Bn, 0, none⟩)]] w fun e w' => ∃ A c, e = .returned (.slice A (beatF (some d) count os 8).length c) ∧ kI.C w' A (beatF (some d) count os 8).length (frL (beatF (some d) count os 8)) ∧ (∃ vb', PrAt w' g (.pointer (some ⟨gd, 0, none⟩)) (beatO (some d) now count os 8) vm vb' true now) ∧ Fr (fun k => k = g) w w' ∧ Keep8 w w' := by
  have HP := Aside0.mk h
  have HDB := Aside0.mk hD
  have HTB := Aside0.mk ht
  have HMW := Aside0.mk hmw
  have HG := Aside0.mk hG
  have HN := Aside0.mk (And.intro hn hp)
  have HT := Aside0.mk (decide_eq_true htm)
  have HID := Aside0.mk hid
  have hgl := h.lt
  have c5 := h.gs
  have c6 := h.nw
  have f6 := h.fz 106
  have HKC := Aside0.mk hkc
  clear h hD ht hmw hG hn hp htm hid hkc
  go_enter Tryd.func93, Tryd.ntmps93
  go_wp2_with (go_at_call 92; refine (ptime_any _ _).mono ?_; rw [HT.out]; rintro e w' ⟨rfl, hw⟩; have hw := hw.symm; subst hw)
  have HF0 := Aside0.mk (show Fr (fun k => k = g) w (w.setCell ⟨g, 106, none⟩ (.int .i64 now)) from Fr.setCell (M := fun k => k = g) w ⟨g, 106, none⟩ _ (.inl rfl))
  have HK0 := Aside0.mk (show Keep8 w (w.setCell ⟨g, 106, none⟩ (.int .i64 now)) from keep_set c6 (fun y => by simp))
  have HP2 := Aside0.mk (HP.out.setNow now)
  generalize w.setCell ⟨g, 106, none⟩ (.int .i64 now) = w2 at HF0 HK0 HP2 ⊢
  clear c5 c6 f6
  go_loopw [7, 32] (fun ov iv wr => ∃ (i : Nat), i ≤ 8 ∧ iv = .int .i64 i ∧ Aside0 (∃ vb', PrAt wr g (.pointer (some ⟨gd, 0, none⟩)) (beatO (some d) now count os i) vm vb' true now ∧ OffO wr ov (beatO (some d) now count os i) vm vb') ∧ Aside0 (Kd.R kI 104 wr w.heap.size (fun _ => True) ov (frL (beatF (some d) count os i)) ∧ (beatF (some d) count os i).length ≤ i) ∧ Aside0 (Fr (fun k => k = g) w wr ∧ Keep8 w wr)) (fun _ iv _ => 8 - (intOf iv).toNat)
  case atStart => exact ⟨0, by omega, rfl, ⟨vb, by rw [show beatO (some d) now count os 0 = os from funext fun k => beatO_same (fun h => by omega)]; exact ⟨HP2.out, fun k hk => by simp [Value.ownBlock] at hk⟩⟩, ⟨Kd.R_nil _ _ _ _ _, Nat.le_refl _⟩, ⟨HF0.out, HK0.out⟩⟩
  case round =>
    obtain ⟨i, hi, rfl, HPR, HRO, HFK⟩ := hrel
    obtain ⟨vb', hpr, hoff⟩ := HPR.out
    have HPI := Aside0.mk hpr
    have HOFF := Aside0.mk hoff
    clear hpr hoff
    by_cases hlt : i < 8
    · have hi1 : (i : Int) < 8 := by omega
      have hoi : beatO (some d) now count os i i = os i := beatO_same (fun h => by omega)
      have hDi := HDB.out.kp HFK.out.1 HFK.out.2 hne.1 hne.2.1 hne.2.2
      have HDI := Aside0.mk hDi
      have HBW := Aside0.mk (show Below B w wr from HFK.out.1.below (fun jj hjj => ⟨by omega, fun e => by have : jj = g := e; omega⟩))
      have HTI := Aside0.mk (HTB.out.below HBW.out).tbl
      have HNI := Aside0.mk (And.intro (HFK.out.1.cell HN.out.1 hbx.1) (HFK.out.1.cell HN.out.2 hbx.2))
      have hob := HPI.out.ob i hlt
      rw [hoi] at hob
      have y0 := hob 0 _ rfl
      rw [Nat.add_zero] at y0
      have HOB := Aside0.mk hob
      have HOI := Aside0.mk hoi
      clear hDi hob hoi
      cases hon : (os i).cm.on with
      | false =>
        have hnx : beatF (some d) count os (i + 1) = beatF (some d) count os i := by simp [beatF, hon]
        have hox : beatO (some d) now count os (i + 1) = beatO (some d) now count os i := funext fun k => by
          by_cases e : k = i
          · subst e
            rw [beatO_same (fun h => by rw [hon] at h; simp at h), beatO_same (fun h => by omega)]
          · exact beatO_next e
        have HNX := Aside0.mk (And.intro hnx hox)
        rw [hon] at y0
        clear hnx hox hon
        go_wp2
        go_roundw
        case rel => exact ⟨i + 1, by omega, by go_num, ⟨vb', by rw [HNX.out.2]; exact ⟨HPI.out, HOFF.out⟩⟩, ⟨by rw [HNX.out.1]; exact HRO.out.1, by rw [HNX.out.1]; have := HRO.out.2; omega⟩, HFK⟩
        case measure => simp [intOf]; omega
      | true =>
        obtain ⟨⟨xo, q⟩, hr⟩ : ∃ r, syncC (some d) (os i) count = r := ⟨_, rfl⟩
        have hsy := psync1_any B g Bn Bp (.pointer (some ⟨gd, 0, none⟩)) (some d) (beatO (some d) now count os i) vm vb' true now count i wr HPI.out hlt ⟨gd, rfl, HDI.out.dict⟩ HTI.out (fun d' e => by injection e with e; exact e ▸ HG.out) (by rw [HOI.out]; exact (HMW.out i hlt).1) (by rw [HOI.out]; exact (HMW.out i hlt).2) HNI.out.1 HNI.out.2 hbx (by rw [HOI.out]; exact (HKC.out i hlt hon).1) (by rw [HOI.out]; exact (HKC.out i hlt hon).2)
        rw [HOI.out, hr] at hsy
        have HSY := Aside0.mk hsy
        have hsm := sync_same (some d) (os i) count
        rw [hr] at hsm
        have HSM := Aside0.mk hsm
        have HR := Aside0.mk hr
        rw [hon] at y0
        have HON := Aside0.mk hon
        clear hsy hsm hr hon
        cases q with
        | false =>
          go_wp2_with (go_at_call 97; go_loud (refine HSY.out.mono ?_; rintro e w3 ⟨rfl, hp3, hf3, hk3⟩; have H3 := Aside0.mk (And.intro hp3 (And.intro hf3 hk3)); clear hp3 hf3 hk3))
          obtain ⟨osJ, hosJ⟩ : ∃ osJ, upd (beatO (some d) now count os i) i xo = osJ := ⟨_, rfl⟩
          have HJ := Aside0.mk (show osJ i = xo from by rw [← hosJ, upd_same])
          have HPI3 := Aside0.mk (show PrAt w3 g (.pointer (some ⟨gd, 0, none⟩)) osJ vm vb' true now from hosJ ▸ H3.out.1)
          have HFK3 := Aside0.mk (show Fr (fun k => k = g) w w3 ∧ Keep8 w w3 from ⟨HFK.out.1.trans H3.out.2.1, HFK.out.2.trans H3.out.2.2⟩)
          have HRO3 := Aside0.mk (show Kd.R kI 104 w3 w.heap.size (fun _ => True) u7 (frL (beatF (some d) count os i)) ∧ (beatF (some d) count os i).length ≤ i from ⟨R_fr HRO.out.1 H3.out.2.1 (fun k hk e => by have : k = g := e; omega), HRO.out.2⟩)
          have HOFF3 := Aside0.mk (show OffO w3 u7 osJ vm vb' from fun k hk j hj => by
            rw [← hosJ]
            have hbt : (upd (beatO (some d) now count os i) i xo j).bts = (beatO (some d) now count os i j).bts ∧ (upd (beatO (some d) now count os i) i xo j).maps = (beatO (some d) now count os i j).maps := by
              by_cases e : j = i
              · subst e
                rw [upd_same, HOI.out]
                exact ⟨HSM.out.2.2, HSM.out.2.1⟩
              · rw [upd_ne _ _ e]
                exact ⟨rfl, rfl⟩
            rw [hbt.1, hbt.2]
            exact ⟨(HOFF.out k hk j hj).1.two (HPI.out.bs j hj) H3.out.2.1, MsN.two (HOFF.out k hk j hj).2 (HPI.out.ms j hj) H3.out.2.1⟩)
          have HOSJ := Aside0.mk hosJ
          clear hosJ
          have hnx : beatF (some d) count os (i + 1) = beatF (some d) count os i := by simp [beatF, HR.out]
          have hox : beatO (some d) now count os (i + 1) = osJ := funext fun k => by
            rw [← HOSJ.out]
            by_cases e : k = i
            · subst e
              rw [upd_same]
              unfold beatO
              rw [if_pos ⟨Nat.lt_succ_self _, HON.out⟩, HR.out]
              rfl
            · rw [upd_ne _ _ e]
              exact beatO_next e
          have HNX := Aside0.mk (And.intro hnx hox)
          clear hnx hox
          go_wp2
          go_roundw
          case rel => exact ⟨i + 1, by omega, by go_num, ⟨vb', by rw [HNX.out.2]; exact ⟨HPI3.out, HOFF3.out⟩⟩, ⟨by rw [HNX.out.1]; exact HRO3.out.1, by rw [HNX.out.1]; have := HRO3.out.2; omega⟩, HFK3⟩
          case measure => simp [intOf]; omega
        | true =>
          go_wp2_with (go_at_call 97; go_loud (refine HSY.out.mono ?_; rintro e w3 ⟨rfl, hp3, hf3, hk3⟩; have H3 := Aside0.mk (And.intro hp3 (And.intro hf3 hk3)); clear hp3 hf3 hk3))
          obtain ⟨osJ, hosJ⟩ : ∃ osJ, upd (beatO (some d) now count os i) i xo = osJ := ⟨_, rfl⟩
          have HJ := Aside0.mk (show osJ i = xo from by rw [← hosJ, upd_same])
          have HPI3 := Aside0.mk (show PrAt w3 g (.pointer (some ⟨gd, 0, none⟩)) osJ vm vb' true now from hosJ ▸ H3.out.1)
          have HFK3 := Aside0.mk (show Fr (fun k => k = g) w w3 ∧ Keep8 w w3 from ⟨HFK.out.1.trans H3.out.2.1, HFK.out.2.trans H3.out.2.2⟩)
          have HRO3 := Aside0.mk (show Kd.R kI 104 w3 w.heap.size (fun _ => True) u7 (frL (beatF (some d) count os i)) ∧ (beatF (some d) count os i).length ≤ i from ⟨R_fr HRO.out.1 H3.out.2.1 (fun k hk e => by have : k = g := e; omega), HRO.out.2⟩)
          have HOFF3 := Aside0.mk (show OffO w3 u7 osJ vm vb' from fun k hk j hj => by
            rw [← hosJ]
            have hbt : (upd (beatO (some d) now count os i) i xo j).bts = (beatO (some d) now count os i j).bts ∧ (upd (beatO (some d) now count os i) i xo j).maps = (beatO (some d) now count os i j).maps := by
              by_cases e : j = i
              · subst e
                rw [upd_same, HOI.out]
                exact ⟨HSM.out.2.2, HSM.out.2.1⟩
              · rw [upd_ne _ _ e]
                exact ⟨rfl, rfl⟩
            rw [hbt.1, hbt.2]
            exact ⟨(HOFF.out k hk j hj).1.two (HPI.out.bs j hj) H3.out.2.1, MsN.two (HOFF.out k hk j hj).2 (HPI.out.ms j hj) H3.out.2.1⟩)
          have HOSJ := Aside0.mk hosJ
          clear hosJ
          have HDI3 := Aside0.mk (HDB.out.kp HFK3.out.1 HFK3.out.2 hne.1 hne.2.1 hne.2.2)
          have HTI3 := Aside0.mk (HTB.out.below (show Below B w w3 from HFK3.out.1.below (fun jj hjj => ⟨by omega, fun e => by have : jj = g := e; omega⟩))).tbl
          have HRF := Aside0.mk (Below.refl w3.heap.size w3)
          have HOB3 := Aside0.mk (show ∀ (j : Nat) u, (xo.cells (vm i) (vb' i))[j]? = some u → w3.cell? ⟨g, 1 + i * 13 + j, none⟩ = some u from fun j u hu => HPI3.out.ob i hlt j u (by rw [HJ.out]; exact hu))
          have HMX := Aside0.mk (show (∀ m ∈ xo.maps, m.Wf) ∧ xo.maps.length ≤ 1000 from by rw [HSM.out.2.1]; exact HMW.out i hlt)
          obtain ⟨Am, cm, hvm, hms, -⟩ := HPI3.out.ms i hlt
          rw [HJ.out] at hms
          have hob := HOB3.out
          have y1 := pw_cell_below HRF.out (hob 1 _ rfl)
          have y6 := pw_cell_below HRF.out (hob 6 _ rfl)
          rw [hvm, show ((osJ i).maps).length = xo.maps.length by rw [HJ.out]] at y6
          have d0 := pw_cell_below HRF.out HPI3.out.d0
          have HPK := Aside0.mk fun (X : World) (hX : Below w3.heap.size w3 X) => pk_any B (.pointer (some ⟨gd, 0, none⟩)) (some d) xo.maps Am cm X ⟨gd, rfl, (HDI3.out.below (HRF.out.trans (hX.mono HRF.out.size))).dict⟩ (HTI3.out.below (HRF.out.trans (hX.mono HRF.out.size))) (hms.below (HRF.out.trans (hX.mono HRF.out.size))) (by have := HMX.out.2; omega) HMX.out.1 (fun d' e => by injection e with e; exact e ▸ HG.out)
          obtain ⟨nm, hnm⟩ : ∃ nm, xo.maps.length = nm := ⟨_, rfl⟩
          obtain ⟨bc, hbc⟩ : ∃ bc, bC (some d) xo.maps = bc := ⟨_, rfl⟩
          obtain ⟨nk, hnk⟩ : ∃ nk, bc.length = nk := ⟨_, rfl⟩
          obtain ⟨id, hidd⟩ : ∃ id, xo.cm.id = id := ⟨_, rfl⟩
          have HVM := Aside0.mk hvm
          have HBC := Aside0.mk (And.intro hbc (And.intro hnk hidd))
          rw [hnm, hbc, hnk] at HPK
          rw [hnm] at y6
          rw [hidd] at y1
          generalize checkC (some d) xo.maps true = code at HPK
          obtain ⟨i', n', x0, x1, x2, x3, x4, x5, x6, x7, rr, hfr⟩ := fr11 id bc
          have HFR := Aside0.mk hfr
          have u0 : ∀ X, Below w3.heap.size w3 X → _ := fun X hX => pw_cell_below hX d0
          have u6 : ∀ X, Below w3.heap.size w3 X → _ := fun X hX => pw_cell_below hX y6
          have hS0 : Below w3.heap.size w3 w3.drew := below_drew (Below.refl _ _)
          have Y1 := Aside0.mk y1
          clear hob hms hvm hbc hnk hidd hfr hnm y1 y6 d0
          go_region_held3 (fun X => Below w3.heap.size w3 X) (first | assumption | exact hS0 | exact below_step (by assumption) (by assumption) | exact below_drew (by assumption))
            ((go_at_call 22; go_loud (refine (HPK.out _ (by assumption)).mono ?_; rintro e w4 ⟨A4, c4, rfl, ha4, ho4, hb4⟩; have hs4 := below_step (by assumption) hb4; have HS4 := Aside0.mk hs4; have HA4 := Aside0.mk ha4; have HO4 := Aside0.mk (fun (k : Nat) (hk : (Value.slice A4 nk c4).ownBlock = some k) => Nat.le_trans (show Below w3.heap.size w3 _ by assumption).size (ho4 k hk)); clear ha4 ho4 hb4)))
          have y1 := pw_cell_below HS4.out Y1.out
          clear u0 u6 hS0 hs4
          have hrd4 : Rd w4 A4 bc := by
            obtain ⟨A', c', e, q1, -⟩ := HA4.out
            injection e with e
            subst e
            exact q1.rd
          have HRD4 := Aside0.mk hrd4
          have HRO4 := Aside0.mk (Kd.R_below (Kd.R_below HRO3.out.1 HRF.out) HS4.out)
          have HBW4 := Aside0.mk (show Below w3.heap.size w3 w4 from HRF.out.trans (HS4.out.mono HRF.out.size))
          clear hrd4
          go_upto_region 12 with (go_at_call 127; go_loud (refine (frm_any id A4 c4 nk bc w4 HRD4.out HBC.out.2.1).mono ?_; rintro e w5 ⟨no, rfl, hb5⟩; rw [HFR.out]; have HB5 := Aside0.mk hb5; clear hb5))
          have hrow6 := blk_new w5 (.cells #[.int .u16 i', .int .i64 n', .int .u8 x0, .int .u8 x1, .int .u8 x2, .int .u8 x3, .int .u8 x4, .int .u8 x5, .int .u8 x6, .int .u8 x7, .bool rr] 104)
          have hb56 : Below w5.heap.size w5 (w5.alloc (.cells #[.int .u16 i', .int .i64 n', .int .u8 x0, .int .u8 x1, .int .u8 x2, .int .u8 x3, .int .u8 x4, .int .u8 x5, .int .u8 x6, .int .u8 x7, .bool rr] 104)) := below_alloc (Below.refl _ _) _
          generalize w5.alloc (.cells #[.int .u16 i', .int .i64 n', .int .u8 x0, .int .u8 x1, .int .u8 x2, .int .u8 x3, .int .u8 x4, .int .u8 x5, .int .u8 x6, .int .u8 x7, .bool rr] 104) = w6 at hrow6 hb56 ⊢
          have c0 := Go.Proofs.YtokebpeplopjhaaDoorW.PrintWords.blk_cell hrow6 0
          have c1 := Go.Proofs.YtokebpeplopjhaaDoorW.PrintWords.blk_cell hrow6 1
          have c2 := Go.Proofs.YtokebpeplopjhaaDoorW.PrintWords.blk_cell hrow6 2
          have c3 := Go.Proofs.YtokebpeplopjhaaDoorW.PrintWords.blk_cell hrow6 3
          have c4' := Go.Proofs.YtokebpeplopjhaaDoorW.PrintWords.blk_cell hrow6 4
          have c5 := Go.Proofs.YtokebpeplopjhaaDoorW.PrintWords.blk_cell hrow6 5
          have c6 := Go.Proofs.YtokebpeplopjhaaDoorW.PrintWords.blk_cell hrow6 6
          have c7 := Go.Proofs.YtokebpeplopjhaaDoorW.PrintWords.blk_cell hrow6 7
          have c8 := Go.Proofs.YtokebpeplopjhaaDoorW.PrintWords.blk_cell hrow6 8
          have c9 := Go.Proofs.YtokebpeplopjhaaDoorW.PrintWords.blk_cell hrow6 9
          have c10 := Go.Proofs.YtokebpeplopjhaaDoorW.PrintWords.blk_cell hrow6 10
          have HB46 := Aside0.mk (HB5.out.trans (hb56.mono HB5.out.size))
          have HB6 := Aside0.mk (HBW4.out.trans (HB46.out.mono HBW4.out.size))
          have HPI6 := Aside0.mk (HPI3.out.below HB6.out)
          have HOF6 := Aside0.mk (HOFF3.out.below HB6.out)
          have HRO6 := Aside0.mk (Kd.R_below HRO3.out.1 HB6.out)
          have HLN := Aside0.mk (show ((frL (beatF (some d) count os i)).length + 1) * 32 ≤ 140737488355328 by have := HRO3.out.2; simp only [frL, List.length_map]; omega)
          have HSZ6 := Aside0.mk (Nat.le_trans HFK3.out.1.size HB6.out.size)
          clear hrow6 hb56 y1
          go_wp2_with ((with_reducible refine gate_builtin (b := .append) (xs := #[.tmp 74, .tmp 76]) rfl ?_); at_builtin; go_loud (refine Kd.R_append kI (w0 := w6) w.heap.size rfl (.tmp 74) (.tmp 76) 89 104 (.agg #[.int .u16 0, .int .i64 0, .int .u8 0, .int .u8 0, .int .u8 0, .int .u8 0, .int .u8 0, .int .u8 0, .int .u8 0, .int .u8 0, .bool false]) 32 rfl Tryd.underlying89 info_fr rfl (by decide) (by decide) _ (frL (beatF (some d) count os i)) [.int .u16 i', .int .i64 n', .int .u8 x0, .int .u8 x1, .int .u8 x2, .int .u8 x3, .int .u8 x4, .int .u8 x5, .int .u8 x6, .int .u8 x7, .bool rr] [.int .u16 i', .int .i64 n', .int .u8 x0, .int .u8 x1, .int .u8 x2, .int .u8 x3, .int .u8 x4, .int .u8 x5, .int .u8 x6, .int .u8 x7, .bool rr] (fun _ => True) (fun _ => False) rfl rfl ⟨rfl, rfl, by intro u hu; simp at hu; rcases hu with rfl | rfl | rfl | rfl | rfl | rfl | rfl | rfl | rfl | rfl | rfl <;> rfl⟩ (fun _ hk => hk.elim) (fun _ _ => trivial) HRO6.out (Below.refl _ _) HSZ6.out HLN.out ?_; intro v7 w7 hown hb hg hat; have HR7 := Aside0.mk hown; have HB7 := Aside0.mk hb; have HG7 := Aside0.mk hg; have HT7 := Aside0.mk hat; have HPR7 := Aside0.mk (HPI6.out.grown HOF6.out (fun e => by have := ((Kd.R_bound HRO6.out).1 g e).2.1; omega) hg); have HOF7 := Aside0.mk (HOF6.out.grown HPI6.out hg hat); have z7 := HPR7.out.ob i hlt 7 _ rfl; have z8 := HPR7.out.ob i hlt 8 _ rfl; have z9 := HPR7.out.ob i hlt 9 _ rfl; have z10 := HPR7.out.ob i hlt 10 _ rfl; have f7 := HPR7.out.fz (1 + i * 13 + 7); have f8 := HPR7.out.fz (1 + i * 13 + 8); have f9 := HPR7.out.fz (1 + i * 13 + 9); have f10 := HPR7.out.fz (1 + i * 13 + 10); clear hown hb hg hat))
          go_roundw
          case rel =>
            have hgw : g < w3.heap.size := Nat.lt_of_lt_of_le hgl HFK3.out.1.size
            have hs3 := HRF.out.size
            have u7lt := Kd.R_lt HRO3.out.1
            have ho : ∀ x, (Value.slice A4 nk c4).ownBlock = some x → w3.heap.size ≤ x := HO4.out
            have a6 : ∀ k, k < w3.heap.size → ArgN k w6 (.slice A4 nk c4) bc := fun k hk => (argn_at HA4.out (fun k' hk' _ e => by have := ho k' hk'; omega)).below HB46.out
            have a7 : ∀ k, ArgN k w6 (.slice A4 nk c4) bc → ArgN k w7 (.slice A4 nk c4) bc := fun k h => h.grown HG7.out (fun x hx e => by have h1 := ho x hx; have h2 := u7lt x e; omega)
            have fs : Fr (fun x => x = g) w7 (w7.setCells g (1 + i * 13 + 7) [.bool true, .slice A4 nk c4, .int .i64 now, .bool false]) := fr_cells _ _ _
            have hEO : beatO (some d) now count os (i + 1) = upd osJ i { osJ i with sent := true, bts := bc, at_ := now, wanted := false } := funext fun k => by
              by_cases e : k = i
              · subst e
                rw [upd_same, HJ.out]
                unfold beatO
                rw [if_pos ⟨Nat.lt_succ_self _, HON.out⟩, HR.out, ← HBC.out.1]
                rfl
              · rw [upd_ne _ _ e, ← HOSJ.out, upd_ne _ _ e]
                exact beatO_next e
            have hFL : frL (beatF (some d) count os (i + 1)) = frL (beatF (some d) count os i) ++ [([.int .u16 i', .int .i64 n', .int .u8 x0, .int .u8 x1, .int .u8 x2, .int .u8 x3, .int .u8 x4, .int .u8 x5, .int .u8 x6, .int .u8 x7, .bool rr] : List Value)] := by
              have h1 : beatF (some d) count os (i + 1) = beatF (some d) count os i ++ [frC (some d) xo] := by
                show beatF (some d) count os i ++ (if _ then _ else _) = _
                rw [if_pos ⟨HON.out, by rw [HR.out]⟩, HR.out]
              have h2 : (frC (some d) xo).cells = #[.int .u16 i', .int .i64 n', .int .u8 x0, .int .u8 x1, .int .u8 x2, .int .u8 x3, .int .u8 x4, .int .u8 x5, .int .u8 x6, .int .u8 x7, .bool rr] := by
                unfold frC
                rw [HBC.out.1, HBC.out.2.2]
                exact HFR.out
              rw [h1]
              simp only [frL, List.map_append, List.map_cons, List.map_nil]
              rw [h2]
            have hp8 := HPR7.out.sent hlt now (.slice A4 nk c4) bc (a7 g (a6 g (by omega)))
            have hcell : ∀ p y, w.cell? p = some (.int .u8 y) → w7.cell? p = some (.int .u8 y) := fun p y hp => by
              have h1 := (HFK3.out.2.trans (Keep8.below HB6.out)) p y hp
              exact (HB7.out.cell (World.block_lt_of_cell? _ _ hp)).trans h1
            refine ⟨i + 1, by omega, by go_num, ⟨upd vb' i (.slice A4 nk c4), by rw [hEO]; exact hp8, ?_⟩, ⟨by rw [hFL]; exact R_fr HR7.out fs (fun k hk e => by have : k = g := e; omega), ?_⟩, ⟨?_, ?_⟩⟩
            · rw [hEO]
              intro k hk j hj
              by_cases e : j = i
              · subst e
                rw [upd_same, upd_same]
                have b7 : ArgN k w7 (.slice A4 nk c4) bc := by
                  rcases HT7.out with e2 | ⟨b, e2, hb⟩
                  · exact a7 k (a6 k (by have := u7lt k (e2 ▸ hk); omega))
                  · rw [hk] at e2
                    injection e2 with e2
                    exact a7 k ((a6 g (by omega)).argv.toN (by omega))
                exact ⟨b7.two (a7 g (a6 g (by omega))) fs, MsN.two (HOF7.out k hk j hj).2 (HPR7.out.ms j hj) fs⟩
              · rw [upd_ne _ _ e, upd_ne _ _ e]
                exact ⟨(HOF7.out k hk j hj).1.two (HPR7.out.bs j hj) fs, MsN.two (HOF7.out k hk j hj).2 (HPR7.out.ms j hj) fs⟩
            · have := HRO3.out.2
              show (beatF (some d) count os i ++ (if _ then _ else _)).length ≤ i + 1
              rw [if_pos ⟨HON.out, by rw [HR.out]⟩, List.length_append]
              simp
              omega
            · have f1 : Fr (fun x => x = g) w w6 := HFK3.out.1.trans (Fr.of_below HB6.out)
              have f2 : Fr (fun x => w.heap.size ≤ x) w6 w7 := ⟨HB7.out.os, HB7.out.tape, HB7.out.output, HB7.out.size, fun k _ hk => HB7.out.block k (by omega)⟩
              exact (f1.then_ f2 (fun k hk hM => absurd hM (by omega))).trans fs
            · exact (show Keep8 w w7 from hcell).trans (keep_sets4 z7 z8 (by obtain ⟨A', c', e, -⟩ := HPR7.out.bs i hlt; intro y; rw [e]; simp) z9 z10)
          case measure => simp [intOf]; omega
    · obtain rfl : i = 8 := by omega
      have hi1 : ¬ (8 : Int) < 8 := by omega
      obtain ⟨A, c, hv, hl, hC⟩ := Kd.R_reads HRO.out.1
      have hll : (frL (beatF (some d) count os 8)).length = (beatF (some d) count os 8).length := by simp [frL]
      rw [hll] at hv hC
      subst hv
      have HC := Aside0.mk hC
      clear hC hl hll
      go_wp2
      go_ret
      exact ⟨A, ⟨c, rfl⟩, HC.out, ⟨vb', HPI.out⟩, HFK.out.1, HFK.out.2⟩
end Go.Proofs.YtokebpeplopjhaaDoor.Mp
namespace Go.Proofs.YtokebpeplopjhaaDoor.Mp
open Go.RowKit Go.Shelf Go.Proofs.YtokebpeplopjhaaDoor.Rng Go.Proofs.YtokebpeplopjhaaDoorW.PrintWords Go.Proofs.YtokebpeplopjhaaDoorW.PrintMore Go.Proofs.YtokebpeplopjhaaDoorW.PrintLast

set_option maxRecDepth 100000 in
set_option maxHeartbeats 2000000 in
theorem pSync_any (B g gd bi bs : Nat) (d : DD) (os : Nat → Ob) (vm vb : Nat → Value) (n0 now count : Int) (w : World) (h : PrAt w g (.pointer (some ⟨gd, 0, none⟩)) os vm vb true n0) (hD : DictB B w gd bi bs d) (hne : gd ≠ g ∧ bi ≠ g ∧ bs ≠ g) (hG : Good d) (ht : TblB B w) (hBg : B ≤ g) (hmw : ∀ i, i < 8 → (∀ m ∈ (os i).maps, m.Wf) ∧ (os i).maps.length ≤ 1000) (hid : ∀ i, i < 8 → 0 ≤ (os i).cm.id) (htm : timeC now) (hkc : ∀ i, i < 8 → (os i).cm.on = true → (0 ≤ (os i).cm.kind ∧ (os i).cm.kind < 256) ∧ 0 ≤ (os i).counts ∧ (os i).counts < 1000) :
    Calls Tryd.prog 47 #[.pointer (some ⟨g, 0, none⟩), .int .u8 count, .int .i64 now] w fun e w' => ∃ A c, e = .returned (.slice A (beatF (some d) count os 8).length c) ∧ kI.C w' A (beatF (some d) count os 8).length (frL (beatF (some d) count os 8)) ∧ (∃ vb', PrAt w' g (.pointer (some ⟨gd, 0, none⟩)) (beatO (some d) now count os 8) vm vb' true now) ∧ Fr (fun k => k = g) w w' ∧ Keep8 w w' := by
  have hb2 : Below w.heap.size w ((w.alloc (.cells #[.pointer (some ⟨g, 0, none⟩)] 78)).alloc (.cells #[.int .u8 count] 5)) := (below_alloc (Below.refl _ _) _).alloc (by simp) _
  have hgl := h.lt
  have hn := Go.Proofs.YtokebpeplopjhaaDoorW.PrintWords.blk_cell (blk_new (w.alloc (.cells #[.pointer (some ⟨g, 0, none⟩)] 78)) (.cells #[.int .u8 count] 5)) 0
  have hp := Go.Proofs.YtokebpeplopjhaaDoorW.PrintWords.blk_cell (blk_below (blk_new w (.cells #[.pointer (some ⟨g, 0, none⟩)] 78)) (below_alloc (Below.refl _ _) (.cells #[.int .u8 count] 5))) 0
  have hsz : (w.alloc (.cells #[.pointer (some ⟨g, 0, none⟩)] 78)).heap.size = w.heap.size + 1 := by simp
  rw [hsz] at hn
  have HE := Aside0.mk (peach_sync B g gd bi bs (w.heap.size + 1) w.heap.size d os vm vb n0 now count _ (h.below hb2) (hD.below hb2) hne hG (ht.below (hb2.mono (by omega))) hBg hmw hn hp ⟨by omega, by omega⟩ hid htm hkc)
  have HB2 := Aside0.mk hb2
  clear h hD hG ht hmw hid htm hn hp hb2 hsz hkc
  go_enter Tryd.func47, Tryd.ntmps47
  go_wp2_with (go_at_call 93; go_loud (refine HE.out.mono ?_; rintro e w3 ⟨A, c, rfl, h1, h2, h3, h4⟩; have H := Aside0.mk (And.intro h1 (And.intro h2 (And.intro h3 h4))); clear h1 h2 h3 h4))
  go_ret
  exact ⟨A, c, rfl, H.out.1, H.out.2.1, (Fr.of_below HB2.out).trans H.out.2.2.1, (Keep8.below HB2.out).trans H.out.2.2.2⟩
theorem beatF_one (o : Option DD) (count : Int) (os : Nat → Ob) (h : ∀ k, 0 < k → k < 8 → (os k).cm.on = false) : beatF o count os 8 = if (os 0).cm.on = true ∧ (syncC o (os 0) count).2 = true then [frC o (syncC o (os 0) count).1] else [] := by
  have step : ∀ n, n < 8 → beatF o count os (n + 1) = if (os 0).cm.on = true ∧ (syncC o (os 0) count).2 = true then [frC o (syncC o (os 0) count).1] else [] := by
    intro n
    induction n with
    | zero => intro _; simp [beatF]
    | succ n ih =>
      intro hn
      have h1 : beatF o count os (n + 1 + 1) = beatF o count os (n + 1) ++ if (os (n + 1)).cm.on = true ∧ (syncC o (os (n + 1)) count).2 = true then [frC o (syncC o (os (n + 1)) count).1] else [] := rfl
      rw [h1, ih (by omega), if_neg (c := (os (n + 1)).cm.on = true ∧ _) (by rw [h (n + 1) (by omega) hn]; simp), List.append_nil]
  exact step 7 (by omega)
/-- What a beat does to the one object. -/
def beatC (c : Cm) (s : Bool) (bts : List Int) (k : Int) (bg : Bool) (b count : Int) : Int × Bool × Bool :=
  if c.kind = 0 then (k, bg, !s || !decide ([b] = bts)) else if 240 < c.kind then (k, bg, false)
  else if bg = false then (0, decide (count = 0 ∨ count = c.st), decide (count = 0 ∨ count = c.st))
  else ((k + 1) % c.kind, true, decide ((k + 1) % c.kind = 0))
theorem sync_obI {d : DD} {b : Int} (hd : OneD d b) (c : Cm) (s : Bool) (bts : List Int) (a k : Int) (bg : Bool) (count : Int) : syncC (some d) (obI c s bts a k bg) count = (obI c s bts a (beatC c s bts k bg b count).1 (beatC c s bts k bg b count).2.1, (beatC c s bts k bg b count).2.2) := by
  have hch : chgC (some d) (obI c s bts a k bg) = (!s || !decide ([b] = bts)) := by
    show (!s || !decide (bC (some d) oneM = bts)) = _
    rw [hd.pack]
  unfold syncC beatC
  rw [hch]
  show (if c.kind = 0 then _ else if 240 < c.kind then _ else if bg = false then _ else _) = _
  by_cases h0 : c.kind = 0
  · simp only [if_pos h0]
    show (obI c s bts a k bg, (!s || !decide ([b] = bts)) || false) = _
    rw [Bool.or_false]
  · simp only [if_neg h0]
    by_cases h1 : 240 < c.kind
    · simp only [if_pos h1]
    · simp only [if_neg h1]
      cases bg
      · rfl
      · rfl
theorem beatO_one {d : DD} {b : Int} (hd : OneD d b) {now count : Int} {os : Nat → Ob} {c : Cm} {s : Bool} {bts : List Int} {a k : Int} {bg : Bool} (h : OneP os (obI c s bts a k bg)) (hc : c.on = true) {k' : Int} {bg' : Bool} :
    (beatC c s bts k bg b count = (k', bg', true) → OneP (beatO (some d) now count os 8) (obI c true [b] now k' bg')) ∧ (beatC c s bts k bg b count = (k', bg', false) → OneP (beatO (some d) now count os 8) (obI c s bts a k' bg')) := by
  have hoff : ∀ k, 0 < k → k < 8 → beatO (some d) now count os 8 k = os k := fun k h0 hk => beatO_same (fun hh => by rw [(h.off k h0 hk).1] at hh; exact absurd hh.2 (by decide))
  have e : beatO (some d) now count os 8 0 = if (syncC (some d) (os 0) count).2 = true then sentC (some d) (syncC (some d) (os 0) count).1 now else (syncC (some d) (os 0) count).1 := if_pos ⟨by omega, by rw [h.at0]; exact hc⟩
  rw [h.at0, sync_obI hd] at e
  constructor
  · intro hb
    rw [hb] at e
    exact ⟨by rw [e, if_pos rfl]; show Ob.mk c oneM true (bC (some d) oneM) now false k' bg' = _; rw [hd.pack]; rfl, fun k h0 hk => by rw [hoff k h0 hk]; exact h.off k h0 hk⟩
  · intro hb
    rw [hb] at e
    exact ⟨by rw [e, if_neg (by simp)], fun k h0 hk => by rw [hoff k h0 hk]; exact h.off k h0 hk⟩
theorem OneP.kc_ok {os : Nat → Ob} {c : Cm} {s : Bool} {bts : List Int} {a k : Int} {bg : Bool} (h : OneP os (obI c s bts a k bg)) (hc : 0 ≤ c.kind ∧ c.kind < 256) (hk : 0 ≤ k ∧ k < 1000) : ∀ i, i < 8 → (os i).cm.on = true → (0 ≤ (os i).cm.kind ∧ (os i).cm.kind < 256) ∧ 0 ≤ (os i).counts ∧ (os i).counts < 1000 := by
  intro i hi hon
  rcases Nat.eq_zero_or_pos i with rfl | hp
  · rw [h.at0]
    exact ⟨hc, hk⟩
  · rw [(h.off i hp hi).1] at hon
    cases hon
theorem sync_yes {B : Nat} {w : World} {g gd bi bs : Nat} {b : Int} {c : Cm} {s : Bool} {bts : List Int} {a k : Int} {bg : Bool} (h : P1 B w g gd bi bs b c s bts a k bg) (ht : TblB B w) (hc : c.on = true) (hi : c.id = 385) (hkd : 0 ≤ c.kind ∧ c.kind < 256) (hk : 0 ≤ k ∧ k < 1000) (now : Int) (hn : timeC now) (count : Int) {k' : Int} {bg' : Bool} (hs : beatC c s bts k bg b count = (k', bg', true)) :
    Calls Tryd.prog 47 #[.pointer (some ⟨g, 0, none⟩), .int .u8 count, .int .i64 now] w (TickYes B w g gd bi bs b c now k' bg') := by
  obtain ⟨⟨d, os, vm, vb, n0, h1, h2, h3, h4⟩, h5, h6⟩ := h
  refine (pSync_any B g gd bi bs d os vm vb n0 now count w h1 h2 h5 h3.good ht h6 h4.maps_ok (h4.id_ok (by omega)) hn (h4.kc_ok hkd hk)).mono ?_
  rintro e w' ⟨A, cc, rfl, q1, ⟨vb', q2⟩, q3, q4⟩
  have hF := beatF_one (some d) count os (fun k h0 hk => by rw [(h4.off k h0 hk).1]; rfl)
  have hsy := sync_obI h3 c s bts a k bg count
  rw [hs] at hsy
  rw [h4.at0, hsy, if_pos ⟨hc, rfl⟩] at hF
  rw [hF] at q1 ⊢
  have hO := (beatO_one (now := now) h3 h4 hc).1 hs
  refine ⟨A, cc, rfl, ?_, ⟨⟨d, _, vm, vb', now, q2, h2.kp q3 q4 h5.1 h5.2.1 h5.2.2, h3, hO⟩, h5, h6⟩, q3.mono (fun k e => .inl e)⟩
  have q1' : kI.C w' A 1 [(frC (some d) (obI c s bts a k' bg')).cells.toList] := q1
  rw [frC_one h3 hi] at q1'
  exact q1'
theorem sync_no {B : Nat} {w : World} {g gd bi bs : Nat} {b : Int} {c : Cm} {s : Bool} {bts : List Int} {a k : Int} {bg : Bool} (h : P1 B w g gd bi bs b c s bts a k bg) (ht : TblB B w) (hc : c.on = true) (hi : c.id = 385) (hkd : 0 ≤ c.kind ∧ c.kind < 256) (hk : 0 ≤ k ∧ k < 1000) (now : Int) (hn : timeC now) (count : Int) {k' : Int} {bg' : Bool} (hs : beatC c s bts k bg b count = (k', bg', false)) :
    Calls Tryd.prog 47 #[.pointer (some ⟨g, 0, none⟩), .int .u8 count, .int .i64 now] w (TickNo B w g gd bi bs b c s bts a k' bg') := by
  obtain ⟨⟨d, os, vm, vb, n0, h1, h2, h3, h4⟩, h5, h6⟩ := h
  refine (pSync_any B g gd bi bs d os vm vb n0 now count w h1 h2 h5 h3.good ht h6 h4.maps_ok (h4.id_ok (by omega)) hn (h4.kc_ok hkd hk)).mono ?_
  rintro e w' ⟨A, cc, rfl, q1, ⟨vb', q2⟩, q3, q4⟩
  have hF := beatF_one (some d) count os (fun k h0 hk => by rw [(h4.off k h0 hk).1]; rfl)
  have hsy := sync_obI h3 c s bts a k bg count
  rw [hs] at hsy
  rw [h4.at0, hsy, if_neg (by simp)] at hF
  rw [hF] at q1 ⊢
  have hO := (beatO_one (now := now) h3 h4 hc).2 hs
  exact ⟨A, cc, rfl, ⟨⟨d, _, vm, vb', now, q2, h2.kp q3 q4 h5.1 h5.2.1 h5.2.2, h3, hO⟩, h5, h6⟩, q3.mono (fun k e => .inl e)⟩
def cB (kind st : Int) : Cm := ⟨true, 385, kind, 0, 0, st⟩
/-- What stays from beat to beat. -/
structure BInv (n st left told : Int) (first s : Bool) (bts : List Int) (k : Int) (bg : Bool) : Prop where
  k0 : 0 ≤ k ∧ k < 241
  sf : s = !first
  bt : first = false → bts = [told]
  on_ : 0 < n → bg = true → k < n ∧ left = n - k ∧ (first = true → st = 0)
  off : 0 < n → bg = false → first = true ∧ 0 < st
theorem binv_0 (n st : Int) (hst : 0 ≤ st) : BInv n st n 0 true false [] 0 (st == 0) := by
  refine ⟨by omega, rfl, by simp, fun h0 hb => ⟨h0, by omega, fun _ => by simpa using hb⟩, fun h0 hb => ⟨rfl, ?_⟩⟩
  have : st ≠ 0 := by simpa using hb
  omega
/-- Of the Kind 0. -/
theorem beat_a {st v count : Int} {s : Bool} {bts : List Int} {k : Int} {bg : Bool} : beatC (cB 0 st) s bts k bg v count = (k, bg, !s || !decide ([v] = bts)) := if_pos rfl
theorem binv_a {st left told v count : Int} {first s : Bool} {bts : List Int} {k : Int} {bg : Bool} (h : BInv 0 st left told first s bts k bg) :
    ((first = true ∨ v ≠ told) → beatC (cB 0 st) s bts k bg v count = (k, bg, true) ∧ BInv 0 st 0 v false true [v] k bg) ∧ (first = false → v = told → beatC (cB 0 st) s bts k bg v count = (k, bg, false) ∧ BInv 0 st (left - 1) told first s bts k bg) := by
  constructor
  · intro hw
    refine ⟨?_, h.k0, rfl, fun _ => rfl, fun h0 => by omega, fun h0 => by omega⟩
    rw [beat_a, h.sf]
    rcases hw with hw | hw
    · rw [hw]
      rfl
    · cases hf : first with
      | true => rfl
      | false => rw [h.bt hf]; simp [hw]
  · intro hf hv
    refine ⟨?_, h.k0, h.sf, h.bt, fun h0 => by omega, fun h0 => by omega⟩
    rw [beat_a, h.sf, hf, h.bt hf, hv]
    simp
/-- Ahead of the first beat that Start asks for. -/
theorem binv_b {n st left told v count : Int} {first s : Bool} {bts : List Int} {k : Int} {bg : Bool} (hn : 0 < n ∧ n < 241) (hc : 0 < count) (h : BInv n st left told first s bts k bg) (hb : bg = false) :
    first = true ∧ 0 < st ∧ (count = st → beatC (cB n st) s bts k bg v count = (0, true, true) ∧ BInv n st n v false true [v] 0 true) ∧ (count ≠ st → beatC (cB n st) s bts k bg v count = (0, false, false) ∧ BInv n st n told first s bts 0 false) := by
  have ho := h.off hn.1 hb
  have e : beatC (cB n st) s bts k bg v count = (0, decide (count = 0 ∨ count = st), decide (count = 0 ∨ count = st)) := by
    unfold beatC
    rw [if_neg (show ¬ (cB n st).kind = 0 from (by omega : ¬ n = 0)), if_neg (show ¬ 240 < (cB n st).kind from (by omega : ¬ 240 < n)), if_pos hb]
    rfl
  refine ⟨ho.1, ho.2, fun he => ⟨?_, by omega, rfl, fun _ => rfl, fun _ _ => ⟨hn.1, by omega, fun hh => by cases hh⟩, fun _ hh => by cases hh⟩, fun he => ⟨?_, by omega, h.sf, h.bt, fun _ hh => by (cases hh), fun _ _ => ho⟩⟩
  · rw [e, decide_eq_true (.inr he)]
  · rw [e, decide_eq_false (by omega)]
/-- Behind it. -/
theorem binv_c {n st left told v count : Int} {first s : Bool} {bts : List Int} {k : Int} {bg : Bool} (hn : 0 < n ∧ n < 241) (h : BInv n st left told first s bts k bg) (hb : bg = true) :
    (first = true → st = 0) ∧ (left = 1 → beatC (cB n st) s bts k bg v count = (0, true, true) ∧ BInv n st n v false true [v] 0 true) ∧ (left ≠ 1 → beatC (cB n st) s bts k bg v count = (k + 1, true, false) ∧ BInv n st (left - 1) told first s bts (k + 1) true) := by
  obtain ⟨h1, h2, h3⟩ := h.on_ hn.1 hb
  have hk := h.k0
  have e : beatC (cB n st) s bts k bg v count = ((k + 1) % n, true, decide ((k + 1) % n = 0)) := by
    unfold beatC
    rw [if_neg (show ¬ (cB n st).kind = 0 from (by omega : ¬ n = 0)), if_neg (show ¬ 240 < (cB n st).kind from (by omega : ¬ 240 < n)), if_neg (by simp [hb])]
    rfl
  refine ⟨h3, fun hl => ⟨?_, by omega, rfl, fun _ => rfl, fun _ _ => ⟨hn.1, by omega, fun hh => by cases hh⟩, fun _ hh => by cases hh⟩, fun hl => ⟨?_, by omega, h.sf, h.bt, fun _ _ => ⟨by omega, by omega, h3⟩, fun _ hh => by cases hh⟩⟩
  · have : (k + 1) % n = 0 := by rw [show k + 1 = n by omega]; exact Int.emod_self
    rw [e, this]
    rfl
  · have hm : (k + 1) % n = k + 1 := Int.emod_eq_of_lt (by omega) (by omega)
    rw [e, hm, decide_eq_false (by omega)]
end Go.Proofs.YtokebpeplopjhaaDoor.Mp
