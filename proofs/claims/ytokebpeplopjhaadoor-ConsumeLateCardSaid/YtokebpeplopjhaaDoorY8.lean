/- dict.may. dict.lend. -/
import Derived.Test.YtokebpeplopjhaaDoorY7
import Derived.Deep.RegionWith
namespace Go.Proofs.YtokebpeplopjhaaDoor.Mp
open Go.RowKit Go.Shelf Go.Proofs.YtokebpeplopjhaaDoor.Rng Go.Proofs.YtokebpeplopjhaaDoorW.PrintWords Go.Proofs.YtokebpeplopjhaaDoorW.PrintMore Go.Proofs.YtokebpeplopjhaaDoorW.PrintLast

theorem held10 {W : World} {g : Nat} {t : TypeId} {u0 u1 u2 u3 u4 u5 u6 u7 u8 u9 : Value} (h : W.heap[g]? = some (.cells #[u0, u1, u2, u3, u4, u5, u6, u7, u8, u9] t (0, 0))) :
    W.cell? ⟨g, 0, none⟩ = some u0 ∧ W.cell? ⟨g, 1, none⟩ = some u1 ∧ W.cell? ⟨g, 2, none⟩ = some u2 ∧ W.cell? ⟨g, 3, none⟩ = some u3 ∧ W.cell? ⟨g, 4, none⟩ = some u4 ∧ W.cell? ⟨g, 5, none⟩ = some u5 ∧ W.cell? ⟨g, 6, none⟩ = some u6 ∧ W.cell? ⟨g, 7, none⟩ = some u7 ∧ W.cell? ⟨g, 8, none⟩ = some u8 ∧ W.cell? ⟨g, 9, none⟩ = some u9 ∧ ∀ j, W.frozen? ⟨g, j, none⟩ = false :=
  ⟨blk_cell h 0, blk_cell h 1, blk_cell h 2, blk_cell h 3, blk_cell h 4, blk_cell h 5, blk_cell h 6, blk_cell h 7, blk_cell h 8, blk_cell h 9, fun j => blk_frozen h j⟩
def bndE (t : Int) (a : List Int) : Prop := a = [] ∨ chkC t a [] [] = 0
instance (t : Int) (a : List Int) : Decidable (bndE t a) := by unfold bndE; infer_instance
theorem bndE_cons (t : Int) (y : Int) (r : List Int) : decide (bndE t (y :: r)) = (chkC t (y :: r) [] [] == 0) := by
  by_cases h : chkC t (y :: r) [] [] = 0
  · rw [decide_eq_true (show bndE t (y :: r) from .inr h), h]
    rfl
  · rw [decide_eq_false (fun e => by rcases e with e | e; cases e; exact h e)]
    simpa using h
theorem arg_nil (w : World) : Arg w none 0 [] := ⟨Rd.none w, (by intro x hx; cases hx), Nat.le_refl _, (by omega)⟩
set_option maxRecDepth 100000 in
set_option maxHeartbeats 1000000 in
theorem dbound_any (t : Int) (ht : 0 ≤ t ∧ t < 256) (g : Nat) (A : Option Addr) (c : Nat) (a : List Int) (w : World) (h : Tbl w) (hg : w.cell? ⟨g, 3, none⟩ = some (.int .u8 t)) (ha : Arg w A c a) :
    Calls Tryd.prog 109 #[.slice A a.length c, .pointer (some ⟨g, 0, none⟩)] w fun e w' => e = .returned (.bool (decide (bndE t a))) ∧ Below w.heap.size w w' := by
  have HC := Aside0.mk (check_any t ht A c a none 0 [] none 0 [] w h ha (arg_nil w) (arg_nil w))
  obtain ⟨q, hq⟩ : ∃ q, chkC t a [] [] = q := ⟨_, rfl⟩
  clear h ha
  cases a with
  | nil =>
    rw [decide_eq_true (show bndE t [] from .inl rfl)]
    go_enter Tryd.func109, Tryd.ntmps109
    go_wp2
    go_ret
    exact ⟨rfl, Below.refl _ _⟩
  | cons y r' =>
    rw [bndE_cons, hq]
    simp only [hq] at HC
    clear hq
    obtain ⟨k, hk⟩ : ∃ k, (y :: r').length = k + 1 := ⟨_, rfl⟩
    have hk1 : ((k + 1 : Nat) == 0) = false := rfl
    rw [hk] at HC ⊢
    go_enter Tryd.func109, Tryd.ntmps109
    go_wp2_with (go_at_call 78; refine HC.out.mono ?_; rintro e w1 ⟨rfl, hb⟩; have HB := Aside0.mk hb; clear hb)
    go_ret
    exact ⟨rfl, HB.out⟩
set_option maxRecDepth 100000 in
set_option maxHeartbeats 2000000 in
theorem dmay_1 (x : En) (hx : x.Wf) (v : Value) (w : World) (h : EnV w v x) (ht : Tbl w) (hk : knd x.ty = 0) :
    Calls Tryd.prog 70 #[v] w fun e w' => e = .returned (.bool false) ∧ Below w.heap.size w w' := by
  obtain ⟨v1, v2, v3, rfl, ⟨A1, a1, rfl, h1⟩, ⟨A2, a2, rfl, h2⟩, ⟨A3, a3, rfl, h3⟩⟩ := h
  have hb0 : Below w.heap.size w (w.alloc (.cells #[.int .u16 x.ix, .int .u8 x.sub, .string x.name, .int .u8 x.ty, .int .u8 x.rt, .slice A1 x.df.length a1, .slice A2 x.lo.length a2, .slice A3 x.hi.length a3, .int .u8 x.tag, .int .u8 x.grp] 121)) := below_alloc (Below.refl _ _) _
  have hrow0 := blk_new w (.cells #[.int .u16 x.ix, .int .u8 x.sub, .string x.name, .int .u8 x.ty, .int .u8 x.rt, .slice A1 x.df.length a1, .slice A2 x.lo.length a2, .slice A3 x.hi.length a3, .int .u8 x.tag, .int .u8 x.grp] 121)
  obtain ⟨W0, hW0⟩ : ∃ W0, w.alloc (.cells #[.int .u16 x.ix, .int .u8 x.sub, .string x.name, .int .u8 x.ty, .int .u8 x.rt, .slice A1 x.df.length a1, .slice A2 x.lo.length a2, .slice A3 x.hi.length a3, .int .u8 x.tag, .int .u8 x.grp] 121) = W0 := ⟨_, rfl⟩
  rw [hW0] at hb0 hrow0
  have K := Aside0.mk fun X (hX : Below W0.heap.size W0 X) => held10 (blk_below hrow0 hX)
  have HT := Aside0.mk (ht.below hb0)
  have hty := hx.ty
  have HE := Aside0.mk (show EnV W0 (.agg #[.int .u16 x.ix, .int .u8 x.sub, .string x.name, .int .u8 x.ty, .int .u8 x.rt, .slice A1 x.df.length a1, .slice A2 x.lo.length a2, .slice A3 x.hi.length a3, .int .u8 x.tag, .int .u8 x.grp]) x from EnV.below (w := w) ⟨_, _, _, rfl, ⟨_, _, rfl, h1⟩, ⟨_, _, rfl, h2⟩, ⟨_, _, rfl, h3⟩⟩ hb0)
  have H2 := Aside0.mk (h2.1.below hb0)
  have H3 := Aside0.mk (h3.1.below hb0)
  have HRI := Aside0.mk (right_any x.ty hty W0 HT.out)
  have HBL := Aside0.mk fun X (hX : Below W0.heap.size W0 X) => dbound_any x.ty hty w.heap.size A2 a2 x.lo X (HT.out.below hX) (K.out X hX).2.2.2.1 (H2.out.below hX)
  have HBH := Aside0.mk fun X (hX : Below W0.heap.size W0 X) => dbound_any x.ty hty w.heap.size A3 a3 x.hi X (HT.out.below hX) (K.out X hX).2.2.2.1 (H3.out.below hX)
  have HB := Aside0.mk (Below.refl W0.heap.size W0)
  have HB0 := Aside0.mk hb0
  obtain ⟨c0, c1, c2, c3, c4, c5, c6, c7, c8, c9, -⟩ := K.out W0 HB.out
  clear h1 h2 h3 ht hb0 hrow0
  have q1 : (knd x.ty != 0) = false := by simp [hk]
  rw [q1] at HRI
  go_enter Tryd.func70, Tryd.ntmps70
  go_wp2_with (first
    | (go_at_call 110; refine HRI.out.mono ?_; rintro e w1 ⟨rfl, hw⟩; rw [hw]; clear hw)
    | (go_at_call 109; (with_reducible refine (HBL.out _ HB.out).mono ?_); rintro e w2 ⟨rfl, hb⟩; replace HB := Aside0.mk (HB.out.trans (hb.mono HB.out.size)); obtain ⟨d0, d1, d2, d3, d4, d5, d6, d7, d8, d9, -⟩ := K.out _ HB.out; clear hb)
    | (go_at_call 109; (with_reducible refine (HBH.out _ HB.out).mono ?_); rintro e w3 ⟨rfl, hb⟩; replace HB := Aside0.mk (HB.out.trans (hb.mono HB.out.size)); obtain ⟨e0, e1, e2, e3, e4, e5, e6, e7, e8, e9, -⟩ := K.out _ HB.out; clear hb))
  go_ret
  exact ⟨rfl, HB0.out.trans (HB.out.mono HB0.out.size)⟩
set_option maxRecDepth 100000 in
set_option maxHeartbeats 2000000 in
theorem dmay_2 (x : En) (hx : x.Wf) (v : Value) (w : World) (h : EnV w v x) (ht : Tbl w) (hk : knd x.ty ≠ 0) (hr : 15 < x.rt) :
    Calls Tryd.prog 70 #[v] w fun e w' => e = .returned (.bool false) ∧ Below w.heap.size w w' := by
  obtain ⟨v1, v2, v3, rfl, ⟨A1, a1, rfl, h1⟩, ⟨A2, a2, rfl, h2⟩, ⟨A3, a3, rfl, h3⟩⟩ := h
  have hb0 : Below w.heap.size w (w.alloc (.cells #[.int .u16 x.ix, .int .u8 x.sub, .string x.name, .int .u8 x.ty, .int .u8 x.rt, .slice A1 x.df.length a1, .slice A2 x.lo.length a2, .slice A3 x.hi.length a3, .int .u8 x.tag, .int .u8 x.grp] 121)) := below_alloc (Below.refl _ _) _
  have hrow0 := blk_new w (.cells #[.int .u16 x.ix, .int .u8 x.sub, .string x.name, .int .u8 x.ty, .int .u8 x.rt, .slice A1 x.df.length a1, .slice A2 x.lo.length a2, .slice A3 x.hi.length a3, .int .u8 x.tag, .int .u8 x.grp] 121)
  obtain ⟨W0, hW0⟩ : ∃ W0, w.alloc (.cells #[.int .u16 x.ix, .int .u8 x.sub, .string x.name, .int .u8 x.ty, .int .u8 x.rt, .slice A1 x.df.length a1, .slice A2 x.lo.length a2, .slice A3 x.hi.length a3, .int .u8 x.tag, .int .u8 x.grp] 121) = W0 := ⟨_, rfl⟩
  rw [hW0] at hb0 hrow0
  have K := Aside0.mk fun X (hX : Below W0.heap.size W0 X) => held10 (blk_below hrow0 hX)
  have HT := Aside0.mk (ht.below hb0)
  have hty := hx.ty
  have HE := Aside0.mk (show EnV W0 (.agg #[.int .u16 x.ix, .int .u8 x.sub, .string x.name, .int .u8 x.ty, .int .u8 x.rt, .slice A1 x.df.length a1, .slice A2 x.lo.length a2, .slice A3 x.hi.length a3, .int .u8 x.tag, .int .u8 x.grp]) x from EnV.below (w := w) ⟨_, _, _, rfl, ⟨_, _, rfl, h1⟩, ⟨_, _, rfl, h2⟩, ⟨_, _, rfl, h3⟩⟩ hb0)
  have H2 := Aside0.mk (h2.1.below hb0)
  have H3 := Aside0.mk (h3.1.below hb0)
  have HRI := Aside0.mk (right_any x.ty hty W0 HT.out)
  have HBL := Aside0.mk fun X (hX : Below W0.heap.size W0 X) => dbound_any x.ty hty w.heap.size A2 a2 x.lo X (HT.out.below hX) (K.out X hX).2.2.2.1 (H2.out.below hX)
  have HBH := Aside0.mk fun X (hX : Below W0.heap.size W0 X) => dbound_any x.ty hty w.heap.size A3 a3 x.hi X (HT.out.below hX) (K.out X hX).2.2.2.1 (H3.out.below hX)
  have HB := Aside0.mk (Below.refl W0.heap.size W0)
  have HB0 := Aside0.mk hb0
  obtain ⟨c0, c1, c2, c3, c4, c5, c6, c7, c8, c9, -⟩ := K.out W0 HB.out
  clear h1 h2 h3 ht hb0 hrow0
  have q1 : (knd x.ty != 0) = true := by simpa using hk
  rw [q1] at HRI
  have q2 : decide ((15 : Int) < x.rt) = true := decide_eq_true (by omega)
  go_enter Tryd.func70, Tryd.ntmps70
  go_wp2_with (first
    | (go_at_call 110; refine HRI.out.mono ?_; rintro e w1 ⟨rfl, hw⟩; rw [hw]; clear hw)
    | (go_at_call 109; (with_reducible refine (HBL.out _ HB.out).mono ?_); rintro e w2 ⟨rfl, hb⟩; replace HB := Aside0.mk (HB.out.trans (hb.mono HB.out.size)); obtain ⟨d0, d1, d2, d3, d4, d5, d6, d7, d8, d9, -⟩ := K.out _ HB.out; clear hb)
    | (go_at_call 109; (with_reducible refine (HBH.out _ HB.out).mono ?_); rintro e w3 ⟨rfl, hb⟩; replace HB := Aside0.mk (HB.out.trans (hb.mono HB.out.size)); obtain ⟨e0, e1, e2, e3, e4, e5, e6, e7, e8, e9, -⟩ := K.out _ HB.out; clear hb))
  go_ret
  exact ⟨rfl, HB0.out.trans (HB.out.mono HB0.out.size)⟩
set_option maxRecDepth 100000 in
set_option maxHeartbeats 2000000 in
theorem dmay_3 (x : En) (hx : x.Wf) (v : Value) (w : World) (h : EnV w v x) (ht : Tbl w) (hk : knd x.ty ≠ 0)(hr : ¬ 15 < x.rt) (hg : 16 < x.grp) :
    Calls Tryd.prog 70 #[v] w fun e w' => e = .returned (.bool false) ∧ Below w.heap.size w w' := by
  obtain ⟨v1, v2, v3, rfl, ⟨A1, a1, rfl, h1⟩, ⟨A2, a2, rfl, h2⟩, ⟨A3, a3, rfl, h3⟩⟩ := h
  have hb0 : Below w.heap.size w (w.alloc (.cells #[.int .u16 x.ix, .int .u8 x.sub, .string x.name, .int .u8 x.ty, .int .u8 x.rt, .slice A1 x.df.length a1, .slice A2 x.lo.length a2, .slice A3 x.hi.length a3, .int .u8 x.tag, .int .u8 x.grp] 121)) := below_alloc (Below.refl _ _) _
  have hrow0 := blk_new w (.cells #[.int .u16 x.ix, .int .u8 x.sub, .string x.name, .int .u8 x.ty, .int .u8 x.rt, .slice A1 x.df.length a1, .slice A2 x.lo.length a2, .slice A3 x.hi.length a3, .int .u8 x.tag, .int .u8 x.grp] 121)
  obtain ⟨W0, hW0⟩ : ∃ W0, w.alloc (.cells #[.int .u16 x.ix, .int .u8 x.sub, .string x.name, .int .u8 x.ty, .int .u8 x.rt, .slice A1 x.df.length a1, .slice A2 x.lo.length a2, .slice A3 x.hi.length a3, .int .u8 x.tag, .int .u8 x.grp] 121) = W0 := ⟨_, rfl⟩
  rw [hW0] at hb0 hrow0
  have K := Aside0.mk fun X (hX : Below W0.heap.size W0 X) => held10 (blk_below hrow0 hX)
  have HT := Aside0.mk (ht.below hb0)
  have hty := hx.ty
  have HE := Aside0.mk (show EnV W0 (.agg #[.int .u16 x.ix, .int .u8 x.sub, .string x.name, .int .u8 x.ty, .int .u8 x.rt, .slice A1 x.df.length a1, .slice A2 x.lo.length a2, .slice A3 x.hi.length a3, .int .u8 x.tag, .int .u8 x.grp]) x from EnV.below (w := w) ⟨_, _, _, rfl, ⟨_, _, rfl, h1⟩, ⟨_, _, rfl, h2⟩, ⟨_, _, rfl, h3⟩⟩ hb0)
  have H2 := Aside0.mk (h2.1.below hb0)
  have H3 := Aside0.mk (h3.1.below hb0)
  have HRI := Aside0.mk (right_any x.ty hty W0 HT.out)
  have HBL := Aside0.mk fun X (hX : Below W0.heap.size W0 X) => dbound_any x.ty hty w.heap.size A2 a2 x.lo X (HT.out.below hX) (K.out X hX).2.2.2.1 (H2.out.below hX)
  have HBH := Aside0.mk fun X (hX : Below W0.heap.size W0 X) => dbound_any x.ty hty w.heap.size A3 a3 x.hi X (HT.out.below hX) (K.out X hX).2.2.2.1 (H3.out.below hX)
  have HB := Aside0.mk (Below.refl W0.heap.size W0)
  have HB0 := Aside0.mk hb0
  obtain ⟨c0, c1, c2, c3, c4, c5, c6, c7, c8, c9, -⟩ := K.out W0 HB.out
  clear h1 h2 h3 ht hb0 hrow0
  have q1 : (knd x.ty != 0) = true := by simpa using hk
  rw [q1] at HRI
  have q2 : decide ((15 : Int) < x.rt) = false := decide_eq_false (by omega)
  have q3 : decide ((16 : Int) < x.grp) = true := decide_eq_true (by omega)
  go_enter Tryd.func70, Tryd.ntmps70
  go_wp2_with (first
    | (go_at_call 110; refine HRI.out.mono ?_; rintro e w1 ⟨rfl, hw⟩; rw [hw]; clear hw)
    | (go_at_call 109; (with_reducible refine (HBL.out _ HB.out).mono ?_); rintro e w2 ⟨rfl, hb⟩; replace HB := Aside0.mk (HB.out.trans (hb.mono HB.out.size)); obtain ⟨d0, d1, d2, d3, d4, d5, d6, d7, d8, d9, -⟩ := K.out _ HB.out; clear hb)
    | (go_at_call 109; (with_reducible refine (HBH.out _ HB.out).mono ?_); rintro e w3 ⟨rfl, hb⟩; replace HB := Aside0.mk (HB.out.trans (hb.mono HB.out.size)); obtain ⟨e0, e1, e2, e3, e4, e5, e6, e7, e8, e9, -⟩ := K.out _ HB.out; clear hb))
  go_ret
  exact ⟨rfl, HB0.out.trans (HB.out.mono HB0.out.size)⟩
set_option maxRecDepth 100000 in
set_option maxHeartbeats 2000000 in
theorem dmay_4 (x : En) (hx : x.Wf) (v : Value) (w : World) (h : EnV w v x) (ht : Tbl w) (hk : knd x.ty ≠ 0)(hr : ¬ 15 < x.rt)(hg : ¬ 16 < x.grp) (hn : 100 < x.name.size) :
    Calls Tryd.prog 70 #[v] w fun e w' => e = .returned (.bool false) ∧ Below w.heap.size w w' := by
  obtain ⟨v1, v2, v3, rfl, ⟨A1, a1, rfl, h1⟩, ⟨A2, a2, rfl, h2⟩, ⟨A3, a3, rfl, h3⟩⟩ := h
  have hb0 : Below w.heap.size w (w.alloc (.cells #[.int .u16 x.ix, .int .u8 x.sub, .string x.name, .int .u8 x.ty, .int .u8 x.rt, .slice A1 x.df.length a1, .slice A2 x.lo.length a2, .slice A3 x.hi.length a3, .int .u8 x.tag, .int .u8 x.grp] 121)) := below_alloc (Below.refl _ _) _
  have hrow0 := blk_new w (.cells #[.int .u16 x.ix, .int .u8 x.sub, .string x.name, .int .u8 x.ty, .int .u8 x.rt, .slice A1 x.df.length a1, .slice A2 x.lo.length a2, .slice A3 x.hi.length a3, .int .u8 x.tag, .int .u8 x.grp] 121)
  obtain ⟨W0, hW0⟩ : ∃ W0, w.alloc (.cells #[.int .u16 x.ix, .int .u8 x.sub, .string x.name, .int .u8 x.ty, .int .u8 x.rt, .slice A1 x.df.length a1, .slice A2 x.lo.length a2, .slice A3 x.hi.length a3, .int .u8 x.tag, .int .u8 x.grp] 121) = W0 := ⟨_, rfl⟩
  rw [hW0] at hb0 hrow0
  have K := Aside0.mk fun X (hX : Below W0.heap.size W0 X) => held10 (blk_below hrow0 hX)
  have HT := Aside0.mk (ht.below hb0)
  have hty := hx.ty
  have HE := Aside0.mk (show EnV W0 (.agg #[.int .u16 x.ix, .int .u8 x.sub, .string x.name, .int .u8 x.ty, .int .u8 x.rt, .slice A1 x.df.length a1, .slice A2 x.lo.length a2, .slice A3 x.hi.length a3, .int .u8 x.tag, .int .u8 x.grp]) x from EnV.below (w := w) ⟨_, _, _, rfl, ⟨_, _, rfl, h1⟩, ⟨_, _, rfl, h2⟩, ⟨_, _, rfl, h3⟩⟩ hb0)
  have H2 := Aside0.mk (h2.1.below hb0)
  have H3 := Aside0.mk (h3.1.below hb0)
  have HRI := Aside0.mk (right_any x.ty hty W0 HT.out)
  have HBL := Aside0.mk fun X (hX : Below W0.heap.size W0 X) => dbound_any x.ty hty w.heap.size A2 a2 x.lo X (HT.out.below hX) (K.out X hX).2.2.2.1 (H2.out.below hX)
  have HBH := Aside0.mk fun X (hX : Below W0.heap.size W0 X) => dbound_any x.ty hty w.heap.size A3 a3 x.hi X (HT.out.below hX) (K.out X hX).2.2.2.1 (H3.out.below hX)
  have HB := Aside0.mk (Below.refl W0.heap.size W0)
  have HB0 := Aside0.mk hb0
  obtain ⟨c0, c1, c2, c3, c4, c5, c6, c7, c8, c9, -⟩ := K.out W0 HB.out
  clear h1 h2 h3 ht hb0 hrow0
  have q1 : (knd x.ty != 0) = true := by simpa using hk
  rw [q1] at HRI
  have q2 : decide ((15 : Int) < x.rt) = false := decide_eq_false (by omega)
  have q3 : decide ((16 : Int) < x.grp) = false := decide_eq_false (by omega)
  have q4 : decide ((100 : Int) < (x.name.size : Int)) = true := decide_eq_true (by omega)
  go_enter Tryd.func70, Tryd.ntmps70
  go_wp2_with (first
    | (go_at_call 110; refine HRI.out.mono ?_; rintro e w1 ⟨rfl, hw⟩; rw [hw]; clear hw)
    | (go_at_call 109; (with_reducible refine (HBL.out _ HB.out).mono ?_); rintro e w2 ⟨rfl, hb⟩; replace HB := Aside0.mk (HB.out.trans (hb.mono HB.out.size)); obtain ⟨d0, d1, d2, d3, d4, d5, d6, d7, d8, d9, -⟩ := K.out _ HB.out; clear hb)
    | (go_at_call 109; (with_reducible refine (HBH.out _ HB.out).mono ?_); rintro e w3 ⟨rfl, hb⟩; replace HB := Aside0.mk (HB.out.trans (hb.mono HB.out.size)); obtain ⟨e0, e1, e2, e3, e4, e5, e6, e7, e8, e9, -⟩ := K.out _ HB.out; clear hb))
  go_ret
  exact ⟨rfl, HB0.out.trans (HB.out.mono HB0.out.size)⟩
set_option maxRecDepth 100000 in
set_option maxHeartbeats 2000000 in
theorem dmay_5 (x : En) (hx : x.Wf) (v : Value) (w : World) (h : EnV w v x) (ht : Tbl w) (hk : knd x.ty ≠ 0)(hr : ¬ 15 < x.rt)(hg : ¬ 16 < x.grp)(hn : ¬ 100 < x.name.size) (hl : ¬ bndE x.ty x.lo) :
    Calls Tryd.prog 70 #[v] w fun e w' => e = .returned (.bool false) ∧ Below w.heap.size w w' := by
  obtain ⟨v1, v2, v3, rfl, ⟨A1, a1, rfl, h1⟩, ⟨A2, a2, rfl, h2⟩, ⟨A3, a3, rfl, h3⟩⟩ := h
  have hb0 : Below w.heap.size w (w.alloc (.cells #[.int .u16 x.ix, .int .u8 x.sub, .string x.name, .int .u8 x.ty, .int .u8 x.rt, .slice A1 x.df.length a1, .slice A2 x.lo.length a2, .slice A3 x.hi.length a3, .int .u8 x.tag, .int .u8 x.grp] 121)) := below_alloc (Below.refl _ _) _
  have hrow0 := blk_new w (.cells #[.int .u16 x.ix, .int .u8 x.sub, .string x.name, .int .u8 x.ty, .int .u8 x.rt, .slice A1 x.df.length a1, .slice A2 x.lo.length a2, .slice A3 x.hi.length a3, .int .u8 x.tag, .int .u8 x.grp] 121)
  obtain ⟨W0, hW0⟩ : ∃ W0, w.alloc (.cells #[.int .u16 x.ix, .int .u8 x.sub, .string x.name, .int .u8 x.ty, .int .u8 x.rt, .slice A1 x.df.length a1, .slice A2 x.lo.length a2, .slice A3 x.hi.length a3, .int .u8 x.tag, .int .u8 x.grp] 121) = W0 := ⟨_, rfl⟩
  rw [hW0] at hb0 hrow0
  have K := Aside0.mk fun X (hX : Below W0.heap.size W0 X) => held10 (blk_below hrow0 hX)
  have HT := Aside0.mk (ht.below hb0)
  have hty := hx.ty
  have HE := Aside0.mk (show EnV W0 (.agg #[.int .u16 x.ix, .int .u8 x.sub, .string x.name, .int .u8 x.ty, .int .u8 x.rt, .slice A1 x.df.length a1, .slice A2 x.lo.length a2, .slice A3 x.hi.length a3, .int .u8 x.tag, .int .u8 x.grp]) x from EnV.below (w := w) ⟨_, _, _, rfl, ⟨_, _, rfl, h1⟩, ⟨_, _, rfl, h2⟩, ⟨_, _, rfl, h3⟩⟩ hb0)
  have H2 := Aside0.mk (h2.1.below hb0)
  have H3 := Aside0.mk (h3.1.below hb0)
  have HRI := Aside0.mk (right_any x.ty hty W0 HT.out)
  have HBL := Aside0.mk fun X (hX : Below W0.heap.size W0 X) => dbound_any x.ty hty w.heap.size A2 a2 x.lo X (HT.out.below hX) (K.out X hX).2.2.2.1 (H2.out.below hX)
  have HBH := Aside0.mk fun X (hX : Below W0.heap.size W0 X) => dbound_any x.ty hty w.heap.size A3 a3 x.hi X (HT.out.below hX) (K.out X hX).2.2.2.1 (H3.out.below hX)
  have HB := Aside0.mk (Below.refl W0.heap.size W0)
  have HB0 := Aside0.mk hb0
  obtain ⟨c0, c1, c2, c3, c4, c5, c6, c7, c8, c9, -⟩ := K.out W0 HB.out
  clear h1 h2 h3 ht hb0 hrow0
  have q1 : (knd x.ty != 0) = true := by simpa using hk
  rw [q1] at HRI
  have q2 : decide ((15 : Int) < x.rt) = false := decide_eq_false (by omega)
  have q3 : decide ((16 : Int) < x.grp) = false := decide_eq_false (by omega)
  have q4 : decide ((100 : Int) < (x.name.size : Int)) = false := decide_eq_false (by omega)
  simp only [hl, decide_false] at HBL
  go_enter Tryd.func70, Tryd.ntmps70
  go_wp2_with (first
    | (go_at_call 110; refine HRI.out.mono ?_; rintro e w1 ⟨rfl, hw⟩; rw [hw]; clear hw)
    | (go_at_call 109; (with_reducible refine (HBL.out _ HB.out).mono ?_); rintro e w2 ⟨rfl, hb⟩; replace HB := Aside0.mk (HB.out.trans (hb.mono HB.out.size)); obtain ⟨d0, d1, d2, d3, d4, d5, d6, d7, d8, d9, -⟩ := K.out _ HB.out; clear hb)
    | (go_at_call 109; (with_reducible refine (HBH.out _ HB.out).mono ?_); rintro e w3 ⟨rfl, hb⟩; replace HB := Aside0.mk (HB.out.trans (hb.mono HB.out.size)); obtain ⟨e0, e1, e2, e3, e4, e5, e6, e7, e8, e9, -⟩ := K.out _ HB.out; clear hb))
  go_ret
  exact ⟨rfl, HB0.out.trans (HB.out.mono HB0.out.size)⟩
set_option maxRecDepth 100000 in
set_option maxHeartbeats 2000000 in
theorem dmay_6 (x : En) (hx : x.Wf) (v : Value) (w : World) (h : EnV w v x) (ht : Tbl w) (hk : knd x.ty ≠ 0)(hr : ¬ 15 < x.rt)(hg : ¬ 16 < x.grp)(hn : ¬ 100 < x.name.size)(hl : bndE x.ty x.lo) (hh : ¬ bndE x.ty x.hi) :
    Calls Tryd.prog 70 #[v] w fun e w' => e = .returned (.bool false) ∧ Below w.heap.size w w' := by
  obtain ⟨v1, v2, v3, rfl, ⟨A1, a1, rfl, h1⟩, ⟨A2, a2, rfl, h2⟩, ⟨A3, a3, rfl, h3⟩⟩ := h
  have hb0 : Below w.heap.size w (w.alloc (.cells #[.int .u16 x.ix, .int .u8 x.sub, .string x.name, .int .u8 x.ty, .int .u8 x.rt, .slice A1 x.df.length a1, .slice A2 x.lo.length a2, .slice A3 x.hi.length a3, .int .u8 x.tag, .int .u8 x.grp] 121)) := below_alloc (Below.refl _ _) _
  have hrow0 := blk_new w (.cells #[.int .u16 x.ix, .int .u8 x.sub, .string x.name, .int .u8 x.ty, .int .u8 x.rt, .slice A1 x.df.length a1, .slice A2 x.lo.length a2, .slice A3 x.hi.length a3, .int .u8 x.tag, .int .u8 x.grp] 121)
  obtain ⟨W0, hW0⟩ : ∃ W0, w.alloc (.cells #[.int .u16 x.ix, .int .u8 x.sub, .string x.name, .int .u8 x.ty, .int .u8 x.rt, .slice A1 x.df.length a1, .slice A2 x.lo.length a2, .slice A3 x.hi.length a3, .int .u8 x.tag, .int .u8 x.grp] 121) = W0 := ⟨_, rfl⟩
  rw [hW0] at hb0 hrow0
  have K := Aside0.mk fun X (hX : Below W0.heap.size W0 X) => held10 (blk_below hrow0 hX)
  have HT := Aside0.mk (ht.below hb0)
  have hty := hx.ty
  have HE := Aside0.mk (show EnV W0 (.agg #[.int .u16 x.ix, .int .u8 x.sub, .string x.name, .int .u8 x.ty, .int .u8 x.rt, .slice A1 x.df.length a1, .slice A2 x.lo.length a2, .slice A3 x.hi.length a3, .int .u8 x.tag, .int .u8 x.grp]) x from EnV.below (w := w) ⟨_, _, _, rfl, ⟨_, _, rfl, h1⟩, ⟨_, _, rfl, h2⟩, ⟨_, _, rfl, h3⟩⟩ hb0)
  have H2 := Aside0.mk (h2.1.below hb0)
  have H3 := Aside0.mk (h3.1.below hb0)
  have HRI := Aside0.mk (right_any x.ty hty W0 HT.out)
  have HBL := Aside0.mk fun X (hX : Below W0.heap.size W0 X) => dbound_any x.ty hty w.heap.size A2 a2 x.lo X (HT.out.below hX) (K.out X hX).2.2.2.1 (H2.out.below hX)
  have HBH := Aside0.mk fun X (hX : Below W0.heap.size W0 X) => dbound_any x.ty hty w.heap.size A3 a3 x.hi X (HT.out.below hX) (K.out X hX).2.2.2.1 (H3.out.below hX)
  have HB := Aside0.mk (Below.refl W0.heap.size W0)
  have HB0 := Aside0.mk hb0
  obtain ⟨c0, c1, c2, c3, c4, c5, c6, c7, c8, c9, -⟩ := K.out W0 HB.out
  clear h1 h2 h3 ht hb0 hrow0
  have q1 : (knd x.ty != 0) = true := by simpa using hk
  rw [q1] at HRI
  have q2 : decide ((15 : Int) < x.rt) = false := decide_eq_false (by omega)
  have q3 : decide ((16 : Int) < x.grp) = false := decide_eq_false (by omega)
  have q4 : decide ((100 : Int) < (x.name.size : Int)) = false := decide_eq_false (by omega)
  simp only [hl, decide_true] at HBL
  simp only [hh, decide_false] at HBH
  go_enter Tryd.func70, Tryd.ntmps70
  go_wp2_with (first
    | (go_at_call 110; refine HRI.out.mono ?_; rintro e w1 ⟨rfl, hw⟩; rw [hw]; clear hw)
    | (go_at_call 109; (with_reducible refine (HBL.out _ HB.out).mono ?_); rintro e w2 ⟨rfl, hb⟩; replace HB := Aside0.mk (HB.out.trans (hb.mono HB.out.size)); obtain ⟨d0, d1, d2, d3, d4, d5, d6, d7, d8, d9, -⟩ := K.out _ HB.out; clear hb)
    | (go_at_call 109; (with_reducible refine (HBH.out _ HB.out).mono ?_); rintro e w3 ⟨rfl, hb⟩; replace HB := Aside0.mk (HB.out.trans (hb.mono HB.out.size)); obtain ⟨e0, e1, e2, e3, e4, e5, e6, e7, e8, e9, -⟩ := K.out _ HB.out; clear hb))
  go_ret
  exact ⟨rfl, HB0.out.trans (HB.out.mono HB0.out.size)⟩
set_option maxRecDepth 100000 in
set_option maxHeartbeats 2000000 in
theorem dmay_7 (x : En) (hx : x.Wf) (v : Value) (w : World) (h : EnV w v x) (ht : Tbl w) (hk : knd x.ty ≠ 0)(hr : ¬ 15 < x.rt)(hg : ¬ 16 < x.grp)(hn : ¬ 100 < x.name.size)(hl : bndE x.ty x.lo)(hh : bndE x.ty x.hi) :
    Calls Tryd.prog 70 #[v] w fun e w' => e = .returned (.bool (chkC x.ty (firstC x) x.lo x.hi == 0)) ∧ Below w.heap.size w w' := by
  obtain ⟨v1, v2, v3, rfl, ⟨A1, a1, rfl, h1⟩, ⟨A2, a2, rfl, h2⟩, ⟨A3, a3, rfl, h3⟩⟩ := h
  have hb0 : Below w.heap.size w (w.alloc (.cells #[.int .u16 x.ix, .int .u8 x.sub, .string x.name, .int .u8 x.ty, .int .u8 x.rt, .slice A1 x.df.length a1, .slice A2 x.lo.length a2, .slice A3 x.hi.length a3, .int .u8 x.tag, .int .u8 x.grp] 121)) := below_alloc (Below.refl _ _) _
  have hrow0 := blk_new w (.cells #[.int .u16 x.ix, .int .u8 x.sub, .string x.name, .int .u8 x.ty, .int .u8 x.rt, .slice A1 x.df.length a1, .slice A2 x.lo.length a2, .slice A3 x.hi.length a3, .int .u8 x.tag, .int .u8 x.grp] 121)
  obtain ⟨W0, hW0⟩ : ∃ W0, w.alloc (.cells #[.int .u16 x.ix, .int .u8 x.sub, .string x.name, .int .u8 x.ty, .int .u8 x.rt, .slice A1 x.df.length a1, .slice A2 x.lo.length a2, .slice A3 x.hi.length a3, .int .u8 x.tag, .int .u8 x.grp] 121) = W0 := ⟨_, rfl⟩
  rw [hW0] at hb0 hrow0
  have K := Aside0.mk fun X (hX : Below W0.heap.size W0 X) => held10 (blk_below hrow0 hX)
  have HT := Aside0.mk (ht.below hb0)
  have hty := hx.ty
  have HE := Aside0.mk (show EnV W0 (.agg #[.int .u16 x.ix, .int .u8 x.sub, .string x.name, .int .u8 x.ty, .int .u8 x.rt, .slice A1 x.df.length a1, .slice A2 x.lo.length a2, .slice A3 x.hi.length a3, .int .u8 x.tag, .int .u8 x.grp]) x from EnV.below (w := w) ⟨_, _, _, rfl, ⟨_, _, rfl, h1⟩, ⟨_, _, rfl, h2⟩, ⟨_, _, rfl, h3⟩⟩ hb0)
  have H2 := Aside0.mk (h2.1.below hb0)
  have H3 := Aside0.mk (h3.1.below hb0)
  have HRI := Aside0.mk (right_any x.ty hty W0 HT.out)
  have HBL := Aside0.mk fun X (hX : Below W0.heap.size W0 X) => dbound_any x.ty hty w.heap.size A2 a2 x.lo X (HT.out.below hX) (K.out X hX).2.2.2.1 (H2.out.below hX)
  have HBH := Aside0.mk fun X (hX : Below W0.heap.size W0 X) => dbound_any x.ty hty w.heap.size A3 a3 x.hi X (HT.out.below hX) (K.out X hX).2.2.2.1 (H3.out.below hX)
  have HB := Aside0.mk (Below.refl W0.heap.size W0)
  have HB0 := Aside0.mk hb0
  obtain ⟨c0, c1, c2, c3, c4, c5, c6, c7, c8, c9, -⟩ := K.out W0 HB.out
  clear h1 h2 h3 ht hb0 hrow0
  have q1 : (knd x.ty != 0) = true := by simpa using hk
  rw [q1] at HRI
  have q2 : decide ((15 : Int) < x.rt) = false := decide_eq_false (by omega)
  have q3 : decide ((16 : Int) < x.grp) = false := decide_eq_false (by omega)
  have q4 : decide ((100 : Int) < (x.name.size : Int)) = false := decide_eq_false (by omega)
  simp only [hl, decide_true] at HBL
  simp only [hh, decide_true] at HBH
  go_enter Tryd.func70, Tryd.ntmps70
  go_wp2_with (first
    | (go_at_call 110; refine HRI.out.mono ?_; rintro e w1 ⟨rfl, hw⟩; rw [hw]; clear hw)
    | (go_at_call 109; (with_reducible refine (HBL.out _ HB.out).mono ?_); rintro e w2 ⟨rfl, hb⟩; replace HB := Aside0.mk (HB.out.trans (hb.mono HB.out.size)); obtain ⟨d0, d1, d2, d3, d4, d5, d6, d7, d8, d9, -⟩ := K.out _ HB.out; clear hb)
    | (go_at_call 109; (with_reducible refine (HBH.out _ HB.out).mono ?_); rintro e w3 ⟨rfl, hb⟩; replace HB := Aside0.mk (HB.out.trans (hb.mono HB.out.size)); obtain ⟨e0, e1, e2, e3, e4, e5, e6, e7, e8, e9, -⟩ := K.out _ HB.out; clear hb))
  have hS0 : Below W0.heap.size W0 w3 := HB.out
  have z3 := fun X hX => (K.out X hX).2.2.2.1
  have z0 := fun X hX => (K.out X hX).1
  have z1 := fun X hX => (K.out X hX).2.1
  have z2 := fun X hX => (K.out X hX).2.2.1
  have z4 := fun X hX => (K.out X hX).2.2.2.2.1
  have z5 := fun X hX => (K.out X hX).2.2.2.2.2.1
  have z6 := fun X hX => (K.out X hX).2.2.2.2.2.2.1
  have z7 := fun X hX => (K.out X hX).2.2.2.2.2.2.2.1
  have z8 := fun X hX => (K.out X hX).2.2.2.2.2.2.2.2.1
  have z9 := fun X hX => (K.out X hX).2.2.2.2.2.2.2.2.2.1
  clear c0 c1 c2 c3 c4 c5 c6 c7 c8 c9 d0 d1 d2 d3 d4 d5 d6 d7 d8 d9 e0 e1 e2 e3 e4 e5 e6 e7 e8 e9
  go_region_held3 (fun X => Below W0.heap.size W0 X) (first | assumption | exact below_step (by assumption) (by assumption) | exact below_drew (by assumption))
    (first
      | (go_at_call 72; refine (first_any x hx _ _ (HE.out.below (by assumption)) (HT.out.below (by assumption))).mono ?_; rintro e w4 ⟨v5, rfl, hv5, hb4⟩; have HB4 := Aside0.mk hb4; obtain ⟨A5, a5, rfl, hv5⟩ := hv5; have HV5 := Aside0.mk hv5; clear hv5)
      | (go_at_call 78; refine (check_any x.ty hty A5 a5 (firstC x) A2 a2 x.lo A3 a3 x.hi _ (HT.out.below (by assumption)) HV5.out.1 (H2.out.below (by assumption)) (H3.out.below (by assumption))).mono ?_; rintro e w5 ⟨rfl, hb5⟩))
  go_wp2
  go_ret
  exact ⟨by rfl, HB0.out.trans ((show Below W0.heap.size W0 _ by assumption).mono HB0.out.size)⟩
end Go.Proofs.YtokebpeplopjhaaDoor.Mp
namespace Go.Proofs.YtokebpeplopjhaaDoor.Mp
open Go.RowKit Go.Shelf Go.Proofs.YtokebpeplopjhaaDoor.Rng Go.Proofs.YtokebpeplopjhaaDoorW.PrintWords Go.Proofs.YtokebpeplopjhaaDoorW.PrintMore Go.Proofs.YtokebpeplopjhaaDoorW.PrintLast

/-- An entry's rows lie at or beyond block n. -/
def EnO (n : Nat) (v : Value) : Prop := ∀ (c : Array Value), v = .agg c → ∀ j A m cap, (j = 5 ∨ j = 6 ∨ j = 7) → c[j]? = some (.slice A m cap) → Off (fun k => k < n) A m
def LndSaid (w : World) (x : En) (r : Ending) (w' : World) : Prop := ∃ v, r = .returned v ∧ EnV w' v x ∧ Below w.heap.size w w' ∧ EnO w.heap.size v
theorem off_two {n j : Nat} {A : Option Addr} {l : Nat} (h : Off (fun k => k < n) A l) (hj : j + 1 < n) : Off (fun k => k = j ∨ k = j + 1) A l := fun ad e hn hk => h ad e hn (by show ad.block < n; rcases hk with hk | hk <;> omega)
theorem R_offB {w : World} {e base n : Nat} {ok : Nat → Prop} {A : Option Addr} {l c : Nat} {a : List Int} (h : Kd.R kB e w base ok (.slice A l c) a) (hn : n ≤ base) : Off (fun j => j < n) A a.length := by
  intro ad hA hl hj
  obtain ⟨g, cap, hv, hg, _, _⟩ := Kd.R_form h hl
  injection hv with h1 _ _
  rw [hA] at h1
  injection h1 with h1
  rw [h1] at hj
  have : g < n := hj
  omega
theorem offm {n m : Nat} {A : Option Addr} {l : Nat} (h : Off (fun k => k < n) A l) (hm : m ≤ n) : Off (fun k => k < m) A l := fun ad e hn hk => h ad e hn (Nat.lt_of_lt_of_le hk hm)
theorem enO_mk {n : Nat} {v0 v1 v2 v3 v4 v8 v9 : Value} {A1 A2 A3 : Option Addr} {m1 m2 m3 c1 c2 c3 : Nat} (h1 : Off (fun k => k < n) A1 m1) (h2 : Off (fun k => k < n) A2 m2) (h3 : Off (fun k => k < n) A3 m3) : EnO n (.agg #[v0, v1, v2, v3, v4, .slice A1 m1 c1, .slice A2 m2 c2, .slice A3 m3 c3, v8, v9]) := by
  intro c hc j A m cap hj he
  injection hc with hc
  subst hc
  rcases hj with rfl | rfl | rfl
  · simp at he
    obtain ⟨rfl, rfl, rfl⟩ := he
    exact h1
  · simp at he
    obtain ⟨rfl, rfl, rfl⟩ := he
    exact h2
  · simp at he
    obtain ⟨rfl, rfl, rfl⟩ := he
    exact h3
theorem info_en : (Tryd.prog.info? 121).map (·.size) = some 10 := by kernel_rfl
theorem R_off2 {w : World} {e base k : Nat} {ok : Nat → Prop} {A : Option Addr} {n c : Nat} {a : List Int} (h : Kd.R kB e w base ok (.slice A n c) a) (hk : k + 1 < base) : Off (fun j => j = k ∨ j = k + 1) A a.length :=
  fun ad hA hn hj => by
    rcases hj with hj | hj
    · exact R_off (k := k) h (by omega) ad hA hn hj
    · exact R_off (k := k + 1) h (by omega) ad hA hn hj
theorem putAt10 (u0 u1 u2 u3 u4 u5 u6 u7 u8 u9 v0 v1 v2 v3 v4 v5 v6 v7 v8 v9 : Value) : putAt #[u0, u1, u2, u3, u4, u5, u6, u7, u8, u9] 0 [v0, v1, v2, v3, v4, v5, v6, v7, v8, v9] = #[v0, v1, v2, v3, v4, v5, v6, v7, v8, v9] := by simp [putAt]
theorem cells10 (W : World) (g : Nat) (v0 v1 v2 v3 v4 v5 v6 v7 v8 v9 : Value) :
    (((((((((W.setCell ⟨g, 0, none⟩ v0).setCell ⟨g, 1, none⟩ v1).setCell ⟨g, 2, none⟩ v2).setCell ⟨g, 3, none⟩ v3).setCell ⟨g, 4, none⟩ v4).setCell ⟨g, 5, none⟩ v5).setCell ⟨g, 6, none⟩ v6).setCell ⟨g, 7, none⟩ v7).setCell ⟨g, 8, none⟩ v8).setCell ⟨g, 9, none⟩ v9 = W.setCells g 0 [v0, v1, v2, v3, v4, v5, v6, v7, v8, v9] := rfl
theorem row10 {W : World} {g : Nat} {t : TypeId} {u0 u1 u2 u3 u4 u5 u6 u7 u8 u9 : Value} (h : W.heap[g]? = some (.cells #[u0, u1, u2, u3, u4, u5, u6, u7, u8, u9] t (0, 0))) (v0 v1 v2 v3 v4 v5 v6 v7 v8 v9 : Value) :
    (W.setCells g 0 [v0, v1, v2, v3, v4, v5, v6, v7, v8, v9]).heap[g]? = some (.cells #[v0, v1, v2, v3, v4, v5, v6, v7, v8, v9] t (0, 0)) := by
  rw [← putAt10 u0 u1 u2 u3 u4 u5 u6 u7 u8 u9]
  exact heap_setCells _ _ _ _ h
theorem lend_end {tmps : Array Value} {W : World} {b : Nat} {cs : Array Value} {t : TypeId} (h4 : tmps.getD 2 undef = .pointer (some ⟨b, 0, none⟩)) (hb : W.heap[b]? = some (.cells cs t (0, 0))) (hs : cs.size = 10) :
    (results Tryd.f71 tmps).run Tryd.prog W = .ok (.agg cs) W :=
  results_single rfl (.cell b t cs (0, 0) _ h4 hb Tryd.underlying121 rfl (by rw [info_en, hs]) .nil)
/-- A row of bytes and a block that it does not lie in. -/
def ArgO (j : Nat) (w : World) (v : Value) (l : List Int) : Prop := ∃ A c, v = .slice A l.length c ∧ Arg w A c l ∧ l.length ≤ 140737488355328 ∧ Off (fun k => k = j) A l.length
theorem ArgV.off {w : World} {A : Option Addr} {n c : Nat} {l : List Int} {j : Nat} (h : ArgV w (.slice A n c) l) (ho : Off (fun k => k = j) A l.length) : ArgO j w (.slice A n c) l := by
  obtain ⟨A', c', e, q1, q2⟩ := h
  injection e with e1 e2 e3
  subst e1 e2 e3
  exact ⟨A, c, rfl, q1, q2, ho⟩
theorem ArgO.set {w w' : World} {v : Value} {l : List Int} {j : Nat} (h : ArgO j w v l) (hf : Fr (fun k => k = j) w w') : ArgV w' v l := by
  obtain ⟨A, c, e, q1, q2, ho⟩ := h
  exact ⟨A, c, e, ⟨q1.rd.fr hf ho, q1.byt, q1.le, q1.cap⟩, q2⟩
/-- A value that lies below the block that is then written. -/
def ArgN (g : Nat) (w : World) (v : Value) (l : List Int) : Prop := ∃ A c, v = .slice A l.length c ∧ Arg w A c l ∧ l.length ≤ 140737488355328 ∧ Off (fun k => k = g) A l.length
theorem fr_cells {g : Nat} : ∀ (vs : List Value) (o : Nat) (w : World), Fr (fun k => k = g) w (w.setCells g o vs)
  | [], _, _ => Fr.refl _ _
  | v :: r, o, w => (Fr.setCell (M := fun k => k = g) w ⟨g, o, none⟩ v (.inl rfl)).trans (fr_cells r (o + 1) (w.setCell ⟨g, o, none⟩ v))
theorem ArgN.cellsO {g : Nat} {w : World} {v : Value} {l : List Int} (h : ArgN g w v l) (o : Nat) (vs : List Value) : ArgV (w.setCells g o vs) v l := by
  obtain ⟨A, c, e, q1, q2, ho⟩ := h
  exact ⟨A, c, e, ⟨q1.rd.fr (fr_cells vs o w) ho, q1.byt, q1.le, q1.cap⟩, q2⟩
theorem lend_mid {w W2 w3 : World} {x : En} {A1 A2 A3 B1 B2 B3 : Option Addr} {a1 a2 a3 b1 b2 b3 : Nat} (hW : Below W2.heap.size W2 w3) (hB : Below w.heap.size w W2)
    (hk : w3.heap[w.heap.size]? = some (.cells #[.int .u16 x.ix, .int .u8 x.sub, .string x.name, .int .u8 x.ty, .int .u8 x.rt, .slice A1 x.df.length a1, .slice A2 x.lo.length a2, .slice A3 x.hi.length a3, .int .u8 x.tag, .int .u8 x.grp] 121 (0, 0))) (hr : w3.heap[w.heap.size + 1]? = some (.cells #[.int .u16 0, .int .u8 0, .string { data := #[] }, .int .u8 0, .int .u8 0, .slice none 0 0, .slice none 0 0, .slice none 0 0, .int .u8 0, .int .u8 0] 121 (0, 0)))
    (h1 : ArgV w3 (.slice B1 x.df.length b1) x.df) (h2 : ArgV w3 (.slice B2 x.lo.length b2) x.lo) (h3 : ArgV w3 (.slice B3 x.hi.length b3) x.hi) (o1 : Off (fun k => k = w.heap.size ∨ k = w.heap.size + 1) B1 x.df.length) (o2 : Off (fun k => k = w.heap.size ∨ k = w.heap.size + 1) B2 x.lo.length) (o3 : Off (fun k => k = w.heap.size ∨ k = w.heap.size + 1) B3 x.hi.length) :
    ∃ W4, Below w.heap.size w W4 ∧ W4.heap[w.heap.size]? = some (.cells #[.int .u16 x.ix, .int .u8 x.sub, .string x.name, .int .u8 x.ty, .int .u8 x.rt, .slice B1 x.df.length b1, .slice B2 x.lo.length b2, .slice B3 x.hi.length b3, .int .u8 x.tag, .int .u8 x.grp] 121 (0, 0)) ∧ W4.heap[w.heap.size + 1]? = some (.cells #[.int .u16 0, .int .u8 0, .string { data := #[] }, .int .u8 0, .int .u8 0, .slice none 0 0, .slice none 0 0, .slice none 0 0, .int .u8 0, .int .u8 0] 121 (0, 0)) ∧
      ArgN (w.heap.size + 1) W4 (.slice B1 x.df.length b1) x.df ∧ ArgN (w.heap.size + 1) W4 (.slice B2 x.lo.length b2) x.lo ∧ ArgN (w.heap.size + 1) W4 (.slice B3 x.hi.length b3) x.hi ∧ (((w3.setCell ⟨w.heap.size, 5, none⟩ (.slice B1 x.df.length b1)).setCell ⟨w.heap.size, 6, none⟩ (.slice B2 x.lo.length b2)).setCell ⟨w.heap.size, 7, none⟩ (.slice B3 x.hi.length b3)) = W4 := by
  have f1 : Fr (fun k => k = w.heap.size) w3 (((w3.setCell ⟨w.heap.size, 5, none⟩ (.slice B1 x.df.length b1)).setCell ⟨w.heap.size, 6, none⟩ (.slice B2 x.lo.length b2)).setCell ⟨w.heap.size, 7, none⟩ (.slice B3 x.hi.length b3)) := ((Fr.setCell (M := fun k => k = w.heap.size) w3 ⟨w.heap.size, 5, none⟩ _ (.inl rfl)).trans (Fr.setCell (M := fun k => k = w.heap.size) _ ⟨w.heap.size, 6, none⟩ _ (.inl rfl))).trans (Fr.setCell (M := fun k => k = w.heap.size) _ ⟨w.heap.size, 7, none⟩ _ (.inl rfl))
  have mk : ∀ {B b l}, ArgV w3 (.slice B l.length b) l → Off (fun k => k = w.heap.size ∨ k = w.heap.size + 1) B l.length → ArgN (w.heap.size + 1) (((w3.setCell ⟨w.heap.size, 5, none⟩ (.slice B1 x.df.length b1)).setCell ⟨w.heap.size, 6, none⟩ (.slice B2 x.lo.length b2)).setCell ⟨w.heap.size, 7, none⟩ (.slice B3 x.hi.length b3)) (.slice B l.length b) l := by
    intro B b l h ho
    obtain ⟨A', c', e, q1, q2⟩ := h
    injection e with e1 e2 e3
    subst e1 e3
    exact ⟨B, b, rfl, ⟨q1.rd.fr f1 (fun ad e hn hk => ho ad e hn (.inl hk)), q1.byt, q1.le, q1.cap⟩, q2, fun ad e hn hk => ho ad e hn (.inr hk)⟩
  refine ⟨_, (below_step hB hW).trans (f1.below (B := w.heap.size) (fun k hk => ⟨?_, ?_⟩)), ?_, (f1.block _ (blk_lt hr) (by omega)).trans hr, mk h1 o1, mk h2 o2, mk h3 o3, rfl⟩
  · have := (below_step hB hW).size
    omega
  · omega
  · have p1 := blk_put (blk_put (blk_put hk 5 (.slice B1 x.df.length b1) rfl) 6 (.slice B2 x.lo.length b2) rfl) 7 (.slice B3 x.hi.length b3) rfl
    simp only [List.setIfInBounds_toArray, List.set_cons_succ, List.set_cons_zero] at p1
    exact p1
set_option maxRecDepth 100000 in
set_option maxHeartbeats 8000000 in
theorem lend_any (x : En) (v : Value) (w : World) (h : EnV w v x) :
    Calls Tryd.prog 71 #[v] w (LndSaid w x) := by
  obtain ⟨v1, v2, v3, rfl, ⟨A1, a1, rfl, h1⟩, ⟨A2, a2, rfl, h2⟩, ⟨A3, a3, rfl, h3⟩⟩ := h
  have H1 := Aside0.mk fun W (hW : Below w.heap.size w W) => clone_arg A1 a1 x.df W (ArgV.below (w := w) ⟨_, _, rfl, h1⟩ hW)
  have H2 := Aside0.mk fun W (hW : Below w.heap.size w W) => clone_arg A2 a2 x.lo W (ArgV.below (w := w) ⟨_, _, rfl, h2⟩ hW)
  have H3 := Aside0.mk fun W (hW : Below w.heap.size w W) => clone_arg A3 a3 x.hi W (ArgV.below (w := w) ⟨_, _, rfl, h3⟩ hW)
  clear h1 h2 h3
  go_enter Tryd.func71, Tryd.ntmps71
  go_wp2
  obtain ⟨W2, hW2⟩ : ∃ W2, ((w.alloc (.cells #[.int .u16 x.ix, .int .u8 x.sub, .string x.name, .int .u8 x.ty, .int .u8 x.rt, .slice A1 x.df.length a1, .slice A2 x.lo.length a2, .slice A3 x.hi.length a3, .int .u8 x.tag, .int .u8 x.grp] 121)).alloc (.cells #[.int .u16 0, .int .u8 0, .string { data := #[] }, .int .u8 0, .int .u8 0, .slice none 0 0, .slice none 0 0, .slice none 0 0, .int .u8 0, .int .u8 0] 121)) = W2 := ⟨_, rfl⟩
  have hb2 : Below w.heap.size w W2 := hW2 ▸ (below_alloc (Below.refl _ _) _).alloc (by simp) _
  have hp2 : W2.heap[w.heap.size]? = some (.cells #[.int .u16 x.ix, .int .u8 x.sub, .string x.name, .int .u8 x.ty, .int .u8 x.rt, .slice A1 x.df.length a1, .slice A2 x.lo.length a2, .slice A3 x.hi.length a3, .int .u8 x.tag, .int .u8 x.grp] 121 (0, 0)) := hW2 ▸ blk_alloc (blk_new _ _) _
  have hr2 : W2.heap[w.heap.size + 1]? = some (.cells #[.int .u16 0, .int .u8 0, .string { data := #[] }, .int .u8 0, .int .u8 0, .slice none 0 0, .slice none 0 0, .slice none 0 0, .int .u8 0, .int .u8 0] 121 (0, 0)) := by
    have := blk_new (w.alloc (.cells #[.int .u16 x.ix, .int .u8 x.sub, .string x.name, .int .u8 x.ty, .int .u8 x.rt, .slice A1 x.df.length a1, .slice A2 x.lo.length a2, .slice A3 x.hi.length a3, .int .u8 x.tag, .int .u8 x.grp] 121)) (.cells #[.int .u16 0, .int .u8 0, .string { data := #[] }, .int .u8 0, .int .u8 0, .slice none 0 0, .slice none 0 0, .slice none 0 0, .int .u8 0, .int .u8 0] 121)
    rw [World.size_alloc, hW2] at this
    exact this
  rw [hW2]
  have K := Aside0.mk fun X (hX : Below W2.heap.size W2 X) => held10 (blk_below hp2 hX)
  have KR := Aside0.mk fun X (hX : Below W2.heap.size W2 X) => blk_below hr2 hX
  have KP := Aside0.mk fun X (hX : Below W2.heap.size W2 X) => blk_below hp2 hX
  have HB2 := Aside0.mk hb2
  have HSZ := Aside0.mk (show w.heap.size + 1 < W2.heap.size by rw [← hW2]; simp)
  have HW := Aside0.mk (Below.refl W2.heap.size W2).drew
  obtain ⟨c0, c1, c2, c3, c4, c5, c6, c7, c8, c9, cf⟩ := held10 hp2
  clear hW2 hb2 hp2 hr2
  go_region_with (first
    | (go_at_call 77; (with_reducible refine (H1.out _ (below_step HB2.out HW.out)).mono ?_); rintro e w1 ⟨v1, rfl, hR, hA, hb⟩; have HSZ1 := Aside0.mk HW.out.size; replace HW := Aside0.mk (below_step HW.out hb); have HA1 := Aside0.mk hA; obtain ⟨B1, b1, rfl, -⟩ := hA; have HO1 := Aside0.mk (R_offB (n := W2.heap.size) hR HSZ1.out); clear hR hb; obtain ⟨c0, c1, c2, c3, c4, c5, c6, c7, c8, c9, cf⟩ := K.out _ HW.out)
    | (go_at_call 77; (with_reducible refine (H2.out _ (below_step HB2.out HW.out)).mono ?_); rintro e w2 ⟨v2, rfl, hR, hA, hb⟩; have HSZ2 := Aside0.mk HW.out.size; have HS2 := Aside0.mk hb; replace HW := Aside0.mk (below_step HW.out hb); have HA2 := Aside0.mk hA; obtain ⟨B2, b2, rfl, -⟩ := hA; have HO2 := Aside0.mk (R_offB (n := W2.heap.size) hR HSZ2.out); clear hR hb; obtain ⟨c0, c1, c2, c3, c4, c5, c6, c7, c8, c9, cf⟩ := K.out _ HW.out)
    | (go_at_call 77; (with_reducible refine (H3.out _ (below_step HB2.out HW.out)).mono ?_); rintro e w3 ⟨v3, rfl, hR, hA, hb⟩; have HSZ3 := Aside0.mk HW.out.size; have HS3 := Aside0.mk hb; replace HW := Aside0.mk (below_step HW.out hb); have HA3 := Aside0.mk hA; obtain ⟨B3, b3, rfl, -⟩ := hA; have HO3 := Aside0.mk (R_offB (n := W2.heap.size) hR HSZ3.out); clear hR hb; obtain ⟨c0, c1, c2, c3, c4, c5, c6, c7, c8, c9, cf⟩ := K.out _ HW.out))
  all_goals
    obtain ⟨W4, q1, p1, r1, g1, g2, g3, hW4⟩ := lend_mid HW.out HB2.out (KP.out _ HW.out) (KR.out _ HW.out) ((HA1.out.below HS2.out).below HS3.out) (HA2.out.below HS3.out) HA3.out (off_two HO1.out HSZ.out) (off_two HO2.out HSZ.out) (off_two HO3.out HSZ.out)
    rw [hW4]
    obtain ⟨m0, m1, m2, m3, m4, m5, m6, m7, m8, m9, -⟩ := held10 p1
    obtain ⟨k0, k1, k2, k3, k4, k5, k6, k7, k8, k9, kf⟩ := held10 r1
    have HQ1 := Aside0.mk q1
    have HR1 := Aside0.mk r1
    have HG := Aside0.mk (And.intro g1 (And.intro g2 g3))
    clear hW4 q1 p1 r1 g1 g2 g3 c0 c1 c2 c3 c4 c5 c6 c7 c8 c9 cf
    go_wp2
    rw [cells10]
    refine bodyPost_ret (lend_end (b := w.heap.size + 1) (cs := #[.int .u16 x.ix, .int .u8 x.sub, .string x.name, .int .u8 x.ty, .int .u8 x.rt, .slice B1 x.df.length b1, .slice B2 x.lo.length b2, .slice B3 x.hi.length b3, .int .u8 x.tag, .int .u8 x.grp]) (t := 121) rfl ?_ rfl) rfl ⟨_, rfl, ⟨_, _, _, rfl, ?_, ?_, ?_⟩, ?_, enO_mk (offm HO1.out (Nat.le_of_lt (Nat.lt_of_succ_lt HSZ.out))) (offm HO2.out (Nat.le_of_lt (Nat.lt_of_succ_lt HSZ.out))) (offm HO3.out (Nat.le_of_lt (Nat.lt_of_succ_lt HSZ.out)))⟩
    · exact row10 HR1.out ..
    · exact (HG.out.1).cellsO _ _
    · exact (HG.out.2.1).cellsO _ _
    · exact (HG.out.2.2).cellsO _ _
    · exact below_cells (by omega) _ _ HQ1.out
end Go.Proofs.YtokebpeplopjhaaDoor.Mp
