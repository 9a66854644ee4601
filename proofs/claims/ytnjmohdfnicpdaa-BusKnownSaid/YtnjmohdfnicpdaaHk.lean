/- Next of the bus (filled by fill.py). -/
import Derived.Test.YtnjmohdfnicpdaaHj
namespace Go.Proofs.Ytnjmohdfnicpdaa.Bus
open Go.RowKit Go.Shelf Go.Lib Go.Sort Go.Proofs.Ytnjmohdfnicpdaa.Frm Go.Proofs.Ytnjmohdfnicpdaa.Rng Go.Proofs.YtnjmohdfnicpdaaW.PrintWords Go.Proofs.YtnjmohdfnicpdaaW.PrintMore Go.Proofs.YtnjmohdfnicpdaaW.PrintLast

theorem BusAt.vlt {w : World} {g : Nat} {v : Value} {l : List Sn} {N : Int} (h : BusAt w g v l N) : ∀ k, v.ownBlock = some k → k < w.heap.size := fun k hk => by
  obtain ⟨_, _, _, ho, _⟩ := h
  exact own_lt ho k hk
/-- The Sent of nothing. -/
def sn0 : Sn := ⟨0, 0, 0, 0, 0, 0, 0, 0, 0, 0, 0, false, 0⟩
/-- What Next tells and leaves. -/
def NextP (l l' : List Sn) (x : Sn) (b : Bool) : Prop := (l = [] ∧ l' = [] ∧ x = sn0 ∧ b = false) ∨ (0 < l.length ∧ x = nth l 0 ∧ b = true ∧ (x :: l').Perm l)
theorem cells13 (W : World) (g : Nat) (v0 v1 v2 v3 v4 v5 v6 v7 v8 v9 v10 v11 v12 : Value) : (((((((((((((W.setCell ⟨g, 0, none⟩ v0).setCell ⟨g, 1, none⟩ v1).setCell ⟨g, 2, none⟩ v2).setCell ⟨g, 3, none⟩ v3).setCell ⟨g, 4, none⟩ v4).setCell ⟨g, 5, none⟩ v5).setCell ⟨g, 6, none⟩ v6).setCell ⟨g, 7, none⟩ v7).setCell ⟨g, 8, none⟩ v8).setCell ⟨g, 9, none⟩ v9).setCell ⟨g, 10, none⟩ v10).setCell ⟨g, 11, none⟩ v11).setCell ⟨g, 12, none⟩ v12) = W.setCells g 0 [v0, v1, v2, v3, v4, v5, v6, v7, v8, v9, v10, v11, v12] := rfl
theorem next_res (tmps : Array Value) (w : World) (g : Nat) (s : Sn) (x : Value) (hp : tmps.getD 2 undef = .pointer (some ⟨g, 0, none⟩)) (ht : tmps.getD 3 undef = x) (hc : w.heap[g]? = some (.cells s.cells.toArray 35 (0, 0))) :
    (results Try.f10 tmps).run Try.prog w = .ok (.tuple #[.agg s.cells.toArray, x]) w := by
  rw [← ht]
  exact results_ct rfl tmps w g _ _ _ _ hp hc Try.underlying35 rfl (by rw [size_sn]; rfl)
theorem assert_sn (v : Value) (w : World) : (Instr.typeAssert (.iface 35 v) 20 35 false).run Try.prog w = .ok v w := by kernel_rfl
set_option maxHeartbeats 4000000 in
set_option maxRecDepth 100000 in
theorem bnext_any (w : World) (g : Nat) (v : Value) (l : List Sn) (N : Int) (h : BusAt w g v l N) (hp : Hp l l.length) (hl : l.length ≤ 100000) :
    Calls Try.prog 10 #[.pointer (some ⟨g, 0, none⟩)] w fun e w' => ∃ x b, e = .returned (.tuple #[.agg #[.int .i64 x.nd, .int .u16 x.id, .int .i64 x.len, .int .u8 x.x0, .int .u8 x.x1, .int .u8 x.x2, .int .u8 x.x3, .int .u8 x.x4, .int .u8 x.x5, .int .u8 x.x6, .int .u8 x.x7, .bool x.rem, .int .i64 x.num], .bool b]) ∧ ∃ v' l', BusAt w' g v' l' N ∧ Hp l' l'.length ∧ NextP l l' x b ∧ Turn g v v' w w' := by
  have HP := Aside0.mk hp
  have HL := Aside0.mk h.lt
  have hbw := below_alloc (Below.refl w.heap.size w) (.cells #[.int .i64 0, .int .u16 0, .int .i64 0, .int .u8 0, .int .u8 0, .int .u8 0, .int .u8 0, .int .u8 0, .int .u8 0, .int .u8 0, .int .u8 0, .bool false, .int .i64 0] 35)
  have hnw := heap_alloc_new w (.cells #[.int .i64 0, .int .u16 0, .int .i64 0, .int .u8 0, .int .u8 0, .int .u8 0, .int .u8 0, .int .u8 0, .int .u8 0, .int .u8 0, .int .u8 0, .bool false, .int .i64 0] 35)
  have HB := Aside0.mk (h.fr (Fr.of_below (M := fun _ => False) hbw) (fun h => h) (fun _ _ h => h))
  have HV := Aside0.mk h.vlt
  have HW := Aside0.mk hbw
  have HNW := Aside0.mk hnw
  clear h hp hbw hnw
  by_cases h0 : l = []
  · subst h0
    go_enter Try.func10, Try.ntmps10
    go_wp2_with (fail)
    refine (len_any _ g v [] N HB.out).mono ?_
    rintro e w2 ⟨rfl, hw2⟩
    subst hw2
    go_wp2_with (fail)
    refine bodyPost_ret (next_res _ _ w.heap.size sn0 _ rfl rfl HNW.out) rfl ?_
    exact ⟨sn0, false, rfl, v, [], HB.out, HP.out, .inl ⟨rfl, rfl, rfl, rfl⟩, ⟨Fr.of_below HW.out, fun k hk => .inl hk⟩⟩
  · have hl0 : 0 < l.length := List.length_pos_iff.2 h0
    go_enter Try.func10, Try.ntmps10
    go_wp2_with (fail)
    refine (len_any _ g v l N HB.out).mono ?_
    rintro e w2 ⟨rfl, hw2⟩
    subst hw2
    go_wp2_with (fail)
    obtain ⟨t, ht⟩ : ∃ t, w.heap.size = t := ⟨_, rfl⟩
    rw [ht] at HL HV HNW HW
    rw [ht]
    have HTS := Aside0.mk ht
    clear ht
    generalize w.alloc (.cells #[.int .i64 0, .int .u16 0, .int .i64 0, .int .u8 0, .int .u8 0, .int .u8 0, .int .u8 0, .int .u8 0, .int .u8 0, .int .u8 0, .int .u8 0, .bool false, .int .i64 0] 35) = W0 at HB HW HNW ⊢
    obtain ⟨x, hx⟩ : ∃ x, nth l 0 = x := ⟨_, rfl⟩
    have HX := Aside0.mk hx
    refine (hpop_any W0 g v l N HB.out HP.out hl0 hl x hx).mono ?_
    rintro e w2 ⟨rfl, v2, l2, hb2, hp2, hh2, ht2⟩
    have htn : t < W0.heap.size := (Array.getElem?_eq_some_iff.1 HNW.out).1
    have hc2 : w2.heap[t]? = some (.cells sn0.cells.toArray 35 (0, 0)) := (ht2.fr.block t htn (fun hk => by
      rcases hk with hk | hk
      · have := HL.out; omega
      · have := HV.out t hk; omega)).trans HNW.out
    have hbw2 : Below t w2 (w2.setCells t 0 [.int .i64 x.nd, .int .u16 x.id, .int .i64 x.len, .int .u8 x.x0, .int .u8 x.x1, .int .u8 x.x2, .int .u8 x.x3, .int .u8 x.x4, .int .u8 x.x5, .int .u8 x.x6, .int .u8 x.x7, .bool x.rem, .int .i64 x.num]) := below_cells (Nat.le_refl _) _ _ (Below.refl _ _)
    have htg : t ≠ g := by have := HL.out; omega
    have htv : v2.ownBlock ≠ some t := fun e => by
      rcases ht2.own t e with h1 | h1
      · have := HV.out t h1; omega
      · omega
    have hw2t : t < w2.heap.size := (Array.getElem?_eq_some_iff.1 hc2).1
    have HBZ := Aside0.mk (show BusAt (w2.setCells t 0 [.int .i64 x.nd, .int .u16 x.id, .int .i64 x.len, .int .u8 x.x0, .int .u8 x.x1, .int .u8 x.x2, .int .u8 x.x3, .int .u8 x.x4, .int .u8 x.x5, .int .u8 x.x6, .int .u8 x.x7, .bool x.rem, .int .i64 x.num]) g v2 l2 N from hb2.fr (fr_setCells t _ 0 w2) (fun e => htg e.symm) (fun k hk e => htv (e ▸ hk)))
    have HTZ := Aside0.mk (show Turn g v v2 w (w2.setCells t 0 [.int .i64 x.nd, .int .u16 x.id, .int .i64 x.len, .int .u8 x.x0, .int .u8 x.x1, .int .u8 x.x2, .int .u8 x.x3, .int .u8 x.x4, .int .u8 x.x5, .int .u8 x.x6, .int .u8 x.x7, .bool x.rem, .int .i64 x.num]) from by
      refine ⟨?_, fun k hk => ?_⟩
      · have h1 : Fr (Mv g v) w w2 := by
          exact ((Fr.of_below (M := fun _ => False) (HTS.out ▸ HW.out)).mono (fun _ h => h.elim)).trans ht2.fr
        exact h1.then_ (fr_setCells t _ 0 w2) (fun i hi hm => by have := HTS.out; omega)
      · rcases ht2.own k hk with h1 | h1
        · exact .inl h1
        · exact .inr (by have := HTS.out; omega))
    have HP2 := Aside0.mk hp2
    have HH2 := Aside0.mk hh2
    obtain ⟨f0, f1, f2, f3, f4, f5, f6, f7, f8, f9, f10, f11, f12, f13⟩ := sn_at hc2
    have hr := row13 (show w2.heap[t]? = some (.cells #[.int .i64 0, .int .u16 0, .int .i64 0, .int .u8 0, .int .u8 0, .int .u8 0, .int .u8 0, .int .u8 0, .int .u8 0, .int .u8 0, .int .u8 0, .bool false, .int .i64 0] 35 (0, 0)) from hc2) (.int .i64 x.nd) (.int .u16 x.id) (.int .i64 x.len) (.int .u8 x.x0) (.int .u8 x.x1) (.int .u8 x.x2) (.int .u8 x.x3) (.int .u8 x.x4) (.int .u8 x.x5) (.int .u8 x.x6) (.int .u8 x.x7) (.bool x.rem) (.int .i64 x.num)
    have HR := Aside0.mk hr
    simp only [sn0] at f0 f1 f2 f3 f4 f5 f6 f7 f8 f9 f10 f11 f12
    clear hb2 hp2 hh2 ht2 hx hc2 hbw2 hr
    have as1 := assert_sn
    go_wp2_with (fail)
    rw [cells13]
    clear f0 f1 f2 f3 f4 f5 f6 f7 f8 f9 f10 f11 f12 f13 as1
    generalize w2.setCells t 0 [.int .i64 x.nd, .int .u16 x.id, .int .i64 x.len, .int .u8 x.x0, .int .u8 x.x1, .int .u8 x.x2, .int .u8 x.x3, .int .u8 x.x4, .int .u8 x.x5, .int .u8 x.x6, .int .u8 x.x7, .bool x.rem, .int .i64 x.num] = W3 at HBZ HTZ HR ⊢
    refine bodyPost_ret (next_res _ _ t x _ rfl rfl HR.out) rfl ?_
    exact ⟨x, true, rfl, v2, l2, HBZ.out, HH2.out, .inr ⟨hl0, HX.out.symm, rfl, HP2.out⟩, HTZ.out⟩
end Go.Proofs.Ytnjmohdfnicpdaa.Bus
