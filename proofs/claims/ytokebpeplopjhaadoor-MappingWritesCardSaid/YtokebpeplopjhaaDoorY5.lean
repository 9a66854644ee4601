/- dict.may. dict.lend. dict.New: the plain law; the store of a count; an empty dictionary; rows of entries. dict.New. The law's size of entries. -/
import Derived.Test.YtokebpeplopjhaaDoorY4
import Derived.Deep.RegionWith
import Derived.Deep.RegionHeld3
namespace Go.Proofs.YtokebpeplopjhaaDoor.Mp
open Go.RowKit Go.Shelf Go.Proofs.YtokebpeplopjhaaDoor.Rng Go.Proofs.YtokebpeplopjhaaDoorW.PrintWords Go.Proofs.YtokebpeplopjhaaDoorW.PrintMore Go.Proofs.YtokebpeplopjhaaDoorW.PrintLast

theorem held10 {W : World} {g : Nat} {t : TypeId} {u0 u1 u2 u3 u4 u5 u6 u7 u8 u9 : Value} (h : W.heap[g]? = some (.cells #[u0, u1, u2, u3, u4, u5, u6, u7, u8, u9] t (0, 0))) :
    W.cell? ⟨g, 0, none⟩ = some u0 ∧ W.cell? ⟨g, 1, none⟩ = some u1 ∧ W.cell? ⟨g, 2, none⟩ = some u2 ∧ W.cell? ⟨g, 3, none⟩ = some u3 ∧ W.cell? ⟨g, 4, none⟩ = some u4 ∧ W.cell? ⟨g, 5, none⟩ = some u5 ∧ W.cell? ⟨g, 6, none⟩ = some u6 ∧ W.cell? ⟨g, 7, none⟩ = some u7 ∧ W.cell? ⟨g, 8, none⟩ = some u8 ∧ W.cell? ⟨g, 9, none⟩ = some u9 ∧ ∀ j, W.frozen? ⟨g, j, none⟩ = false :=
  ⟨blk_cell h 0, blk_cell h 1, blk_cell h 2, blk_cell h 3, blk_cell h 4, blk_cell h 5, blk_cell h 6, blk_cell h 7, blk_cell h 8, blk_cell h 9, fun j => blk_frozen h j⟩
def bndE (t : Int) (a : List Int) : Prop := a = [] ∨ chkC t a [] [] = 0
instance (t : Int) (a : List Int) : Decidable (bndE t a) := by unfold bndE; infer_instance
theorem bndE_cons (t : Int) (y : Int) (r : List Int) : decide (bndE t (y :: r)) = (chkC t (y :: r) [] [] == 0) := by
  by_cases h : chkC t (y :: r) [] [] = 0
  · rw [decide_eq_true (show bndE t (y :: r) from .inr h), h]
    rfl
  · rw [decide_eq_false (fun e => by rcases e with e | e; cases e; exact h e)]
    simpa using h
theorem arg_nil (w : World) : Arg w none 0 [] := ⟨Rd.none w, (by intro x hx; cases hx), Nat.le_refl _, (by omega)⟩
set_option maxRecDepth 100000 in
set_option maxHeartbeats 1000000 in
theorem dbound_any (t : Int) (ht : 0 ≤ t ∧ t < 256) (g : Nat) (A : Option Addr) (c : Nat) (a : List Int) (w : World) (h : Tbl w) (hg : w.cell? ⟨g, 3, none⟩ = some (.int .u8 t)) (ha : Arg w A c a) :
    Calls Tryd.prog 109 #[.slice A a.length c, .pointer (some ⟨g, 0, none⟩)] w fun e w' => e = .returned (.bool (decide (bndE t a))) ∧ Below w.heap.size w w' := by
  have HC := Aside0.mk (check_any t ht A c a none 0 [] none 0 [] w h ha (arg_nil w) (arg_nil w))
  obtain ⟨q, hq⟩ : ∃ q, chkC t a [] [] = q := ⟨_, rfl⟩
  clear h ha
  cases a with
  | nil =>
    rw [decide_eq_true (show bndE t [] from .inl rfl)]
    go_enter Tryd.func109, Tryd.ntmps109
    go_wp2
    go_ret
    exact ⟨rfl, Below.refl _ _⟩
  | cons y r' =>
    rw [bndE_cons, hq]
    simp only [hq] at HC
    clear hq
    obtain ⟨k, hk⟩ : ∃ k, (y :: r').length = k + 1 := ⟨_, rfl⟩
    have hk1 : ((k + 1 : Nat) == 0) = false := rfl
    rw [hk] at HC ⊢
    go_enter Tryd.func109, Tryd.ntmps109
    go_wp2_with (go_at_call 78; refine HC.out.mono ?_; rintro e w1 ⟨rfl, hb⟩; have HB := Aside0.mk hb; clear hb)
    go_ret
    exact ⟨rfl, HB.out⟩
set_option maxRecDepth 100000 in
set_option maxHeartbeats 2000000 in
theorem dmay_1 (x : En) (hx : x.Wf) (v : Value) (w : World) (h : EnV w v x) (ht : Tbl w) (hk : knd x.ty = 0) :
    Calls Tryd.prog 70 #[v] w fun e w' => e = .returned (.bool false) ∧ Below w.heap.size w w' := by
  obtain ⟨v1, v2, v3, rfl, ⟨A1, a1, rfl, h1⟩, ⟨A2, a2, rfl, h2⟩, ⟨A3, a3, rfl, h3⟩⟩ := h
  have hb0 : Below w.heap.size w (w.alloc (.cells #[.int .u16 x.ix, .int .u8 x.sub, .string x.name, .int .u8 x.ty, .int .u8 x.rt, .slice A1 x.df.length a1, .slice A2 x.lo.length a2, .slice A3 x.hi.length a3, .int .u8 x.tag, .int .u8 x.grp] 121)) := below_alloc (Below.refl _ _) _
  have hrow0 := blk_new w (.cells #[.int .u16 x.ix, .int .u8 x.sub, .string x.name, .int .u8 x.ty, .int .u8 x.rt, .slice A1 x.df.length a1, .slice A2 x.lo.length a2, .slice A3 x.hi.length a3, .int .u8 x.tag, .int .u8 x.grp] 121)
  obtain ⟨W0, hW0⟩ : ∃ W0, w.alloc (.cells #[.int .u16 x.ix, .int .u8 x.sub, .string x.name, .int .u8 x.ty, .int .u8 x.rt, .slice A1 x.df.length a1, .slice A2 x.lo.length a2, .slice A3 x.hi.length a3, .int .u8 x.tag, .int .u8 x.grp] 121) = W0 := ⟨_, rfl⟩
  rw [hW0] at hb0 hrow0
  have K := Aside0.mk fun X (hX : Below W0.heap.size W0 X) => held10 (blk_below hrow0 hX)
  have HT := Aside0.mk (ht.below hb0)
  have hty := hx.ty
  have HE := Aside0.mk (show EnV W0 (.agg #[.int .u16 x.ix, .int .u8 x.sub, .string x.name, .int .u8 x.ty, .int .u8 x.rt, .slice A1 x.df.length a1, .slice A2 x.lo.length a2, .slice A3 x.hi.length a3, .int .u8 x.tag, .int .u8 x.grp]) x from EnV.below (w := w) ⟨_, _, _, rfl, ⟨_, _, rfl, h1⟩, ⟨_, _, rfl, h2⟩, ⟨_, _, rfl, h3⟩⟩ hb0)
  have H2 := Aside0.mk (h2.1.below hb0)
  have H3 := Aside0.mk (h3.1.below hb0)
  have HRI := Aside0.mk (right_any x.ty hty W0 HT.out)
  have HBL := Aside0.mk fun X (hX : Below W0.heap.size W0 X) => dbound_any x.ty hty w.heap.size A2 a2 x.lo X (HT.out.below hX) (K.out X hX).2.2.2.1 (H2.out.below hX)
  have HBH := Aside0.mk fun X (hX : Below W0.heap.size W0 X) => dbound_any x.ty hty w.heap.size A3 a3 x.hi X (HT.out.below hX) (K.out X hX).2.2.2.1 (H3.out.below hX)
  have HB := Aside0.mk (Below.refl W0.heap.size W0)
  have HB0 := Aside0.mk hb0
  obtain ⟨c0, c1, c2, c3, c4, c5, c6, c7, c8, c9, -⟩ := K.out W0 HB.out
  clear h1 h2 h3 ht hb0 hrow0
  have q1 : (knd x.ty != 0) = false := by simp [hk]
  rw [q1] at HRI
  go_enter Tryd.func70, Tryd.ntmps70
  go_wp2_with (first
    | (go_at_call 110; refine HRI.out.mono ?_; rintro e w1 ⟨rfl, hw⟩; rw [hw]; clear hw)
    | (go_at_call 109; (with_reducible refine (HBL.out _ HB.out).mono ?_); rintro e w2 ⟨rfl, hb⟩; replace HB := Aside0.mk (HB.out.trans (hb.mono HB.out.size)); obtain ⟨d0, d1, d2, d3, d4, d5, d6, d7, d8, d9, -⟩ := K.out _ HB.out; clear hb)
    | (go_at_call 109; (with_reducible refine (HBH.out _ HB.out).mono ?_); rintro e w3 ⟨rfl, hb⟩; replace HB := Aside0.mk (HB.out.trans (hb.mono HB.out.size)); obtain ⟨e0, e1, e2, e3, e4, e5, e6, e7, e8, e9, -⟩ := K.out _ HB.out; clear hb))
  go_ret
  exact ⟨rfl, HB0.out.trans (HB.out.mono HB0.out.size)⟩
set_option maxRecDepth 100000 in
set_option maxHeartbeats 2000000 in
theorem dmay_2 (x : En) (hx : x.Wf) (v : Value) (w : World) (h : EnV w v x) (ht : Tbl w) (hk : knd x.ty ≠ 0) (hr : 15 < x.rt) :
    Calls Tryd.prog 70 #[v] w fun e w' => e = .returned (.bool false) ∧ Below w.heap.size w w' := by
  obtain ⟨v1, v2, v3, rfl, ⟨A1, a1, rfl, h1⟩, ⟨A2, a2, rfl, h2⟩, ⟨A3, a3, rfl, h3⟩⟩ := h
  have hb0 : Below w.heap.size w (w.alloc (.cells #[.int .u16 x.ix, .int .u8 x.sub, .string x.name, .int .u8 x.ty, .int .u8 x.rt, .slice A1 x.df.length a1, .slice A2 x.lo.length a2, .slice A3 x.hi.length a3, .int .u8 x.tag, .int .u8 x.grp] 121)) := below_alloc (Below.refl _ _) _
  have hrow0 := blk_new w (.cells #[.int .u16 x.ix, .int .u8 x.sub, .string x.name, .int .u8 x.ty, .int .u8 x.rt, .slice A1 x.df.length a1, .slice A2 x.lo.length a2, .slice A3 x.hi.length a3, .int .u8 x.tag, .int .u8 x.grp] 121)
  obtain ⟨W0, hW0⟩ : ∃ W0, w.alloc (.cells #[.int .u16 x.ix, .int .u8 x.sub, .string x.name, .int .u8 x.ty, .int .u8 x.rt, .slice A1 x.df.length a1, .slice A2 x.lo.length a2, .slice A3 x.hi.length a3, .int .u8 x.tag, .int .u8 x.grp] 121) = W0 := ⟨_, rfl⟩
  rw [hW0] at hb0 hrow0
  have K := Aside0.mk fun X (hX : Below W0.heap.size W0 X) => held10 (blk_below hrow0 hX)
  have HT := Aside0.mk (ht.below hb0)
  have hty := hx.ty
  have HE := Aside0.mk (show EnV W0 (.agg #[.int .u16 x.ix, .int .u8 x.sub, .string x.name, .int .u8 x.ty, .int .u8 x.rt, .slice A1 x.df.length a1, .slice A2 x.lo.length a2, .slice A3 x.hi.length a3, .int .u8 x.tag, .int .u8 x.grp]) x from EnV.below (w := w) ⟨_, _, _, rfl, ⟨_, _, rfl, h1⟩, ⟨_, _, rfl, h2⟩, ⟨_, _, rfl, h3⟩⟩ hb0)
  have H2 := Aside0.mk (h2.1.below hb0)
  have H3 := Aside0.mk (h3.1.below hb0)
  have HRI := Aside0.mk (right_any x.ty hty W0 HT.out)
  have HBL := Aside0.mk fun X (hX : Below W0.heap.size W0 X) => dbound_any x.ty hty w.heap.size A2 a2 x.lo X (HT.out.below hX) (K.out X hX).2.2.2.1 (H2.out.below hX)
  have HBH := Aside0.mk fun X (hX : Below W0.heap.size W0 X) => dbound_any x.ty hty w.heap.size A3 a3 x.hi X (HT.out.below hX) (K.out X hX).2.2.2.1 (H3.out.below hX)
  have HB := Aside0.mk (Below.refl W0.heap.size W0)
  have HB0 := Aside0.mk hb0
  obtain ⟨c0, c1, c2, c3, c4, c5, c6, c7, c8, c9, -⟩ := K.out W0 HB.out
  clear h1 h2 h3 ht hb0 hrow0
  have q1 : (knd x.ty != 0) = true := by simpa using hk
  rw [q1] at HRI
  have q2 : decide ((15 : Int) < x.rt) = true := decide_eq_true (by omega)
  go_enter Tryd.func70, Tryd.ntmps70
  go_wp2_with (first
    | (go_at_call 110; refine HRI.out.mono ?_; rintro e w1 ⟨rfl, hw⟩; rw [hw]; clear hw)
    | (go_at_call 109; (with_reducible refine (HBL.out _ HB.out).mono ?_); rintro e w2 ⟨rfl, hb⟩; replace HB := Aside0.mk (HB.out.trans (hb.mono HB.out.size)); obtain ⟨d0, d1, d2, d3, d4, d5, d6, d7, d8, d9, -⟩ := K.out _ HB.out; clear hb)
    | (go_at_call 109; (with_reducible refine (HBH.out _ HB.out).mono ?_); rintro e w3 ⟨rfl, hb⟩; replace HB := Aside0.mk (HB.out.trans (hb.mono HB.out.size)); obtain ⟨e0, e1, e2, e3, e4, e5, e6, e7, e8, e9, -⟩ := K.out _ HB.out; clear hb))
  go_ret
  exact ⟨rfl, HB0.out.trans (HB.out.mono HB0.out.size)⟩
set_option maxRecDepth 100000 in
set_option maxHeartbeats 2000000 in
theorem dmay_3 (x : En) (hx : x.Wf) (v : Value) (w : World) (h : EnV w v x) (ht : Tbl w) (hk : knd x.ty ≠ 0)(hr : ¬ 15 < x.rt) (hg : 16 < x.grp) :
    Calls Tryd.prog 70 #[v] w fun e w' => e = .returned (.bool false) ∧ Below w.heap.size w w' := by
  obtain ⟨v1, v2, v3, rfl, ⟨A1, a1, rfl, h1⟩, ⟨A2, a2, rfl, h2⟩, ⟨A3, a3, rfl, h3⟩⟩ := h
  have hb0 : Below w.heap.size w (w.alloc (.cells #[.int .u16 x.ix, .int .u8 x.sub, .string x.name, .int .u8 x.ty, .int .u8 x.rt, .slice A1 x.df.length a1, .slice A2 x.lo.length a2, .slice A3 x.hi.length a3, .int .u8 x.tag, .int .u8 x.grp] 121)) := below_alloc (Below.refl _ _) _
  have hrow0 := blk_new w (.cells #[.int .u16 x.ix, .int .u8 x.sub, .string x.name, .int .u8 x.ty, .int .u8 x.rt, .slice A1 x.df.length a1, .slice A2 x.lo.length a2, .slice A3 x.hi.length a3, .int .u8 x.tag, .int .u8 x.grp] 121)
  obtain ⟨W0, hW0⟩ : ∃ W0, w.alloc (.cells #[.int .u16 x.ix, .int .u8 x.sub, .string x.name, .int .u8 x.ty, .int .u8 x.rt, .slice A1 x.df.length a1, .slice A2 x.lo.length a2, .slice A3 x.hi.length a3, .int .u8 x.tag, .int .u8 x.grp] 121) = W0 := ⟨_, rfl⟩
  rw [hW0] at hb0 hrow0
  have K := Aside0.mk fun X (hX : Below W0.heap.size W0 X) => held10 (blk_below hrow0 hX)
  have HT := Aside0.mk (ht.below hb0)
  have hty := hx.ty
  have HE := Aside0.mk (show EnV W0 (.agg #[.int .u16 x.ix, .int .u8 x.sub, .string x.name, .int .u8 x.ty, .int .u8 x.rt, .slice A1 x.df.length a1, .slice A2 x.lo.length a2, .slice A3 x.hi.length a3, .int .u8 x.tag, .int .u8 x.grp]) x from EnV.below (w := w) ⟨_, _, _, rfl, ⟨_, _, rfl, h1⟩, ⟨_, _, rfl, h2⟩, ⟨_, _, rfl, h3⟩⟩ hb0)
  have H2 := Aside0.mk (h2.1.below hb0)
  have H3 := Aside0.mk (h3.1.below hb0)
  have HRI := Aside0.mk (right_any x.ty hty W0 HT.out)
  have HBL := Aside0.mk fun X (hX : Below W0.heap.size W0 X) => dbound_any x.ty hty w.heap.size A2 a2 x.lo X (HT.out.below hX) (K.out X hX).2.2.2.1 (H2.out.below hX)
  have HBH := Aside0.mk fun X (hX : Below W0.heap.size W0 X) => dbound_any x.ty hty w.heap.size A3 a3 x.hi X (HT.out.below hX) (K.out X hX).2.2.2.1 (H3.out.below hX)
  have HB := Aside0.mk (Below.refl W0.heap.size W0)
  have HB0 := Aside0.mk hb0
  obtain ⟨c0, c1, c2, c3, c4, c5, c6, c7, c8, c9, -⟩ := K.out W0 HB.out
  clear h1 h2 h3 ht hb0 hrow0
  have q1 : (knd x.ty != 0) = true := by simpa using hk
  rw [q1] at HRI
  have q2 : decide ((15 : Int) < x.rt) = false := decide_eq_false (by omega)
  have q3 : decide ((16 : Int) < x.grp) = true := decide_eq_true (by omega)
  go_enter Tryd.func70, Tryd.ntmps70
  go_wp2_with (first
    | (go_at_call 110; refine HRI.out.mono ?_; rintro e w1 ⟨rfl, hw⟩; rw [hw]; clear hw)
    | (go_at_call 109; (with_reducible refine (HBL.out _ HB.out).mono ?_); rintro e w2 ⟨rfl, hb⟩; replace HB := Aside0.mk (HB.out.trans (hb.mono HB.out.size)); obtain ⟨d0, d1, d2, d3, d4, d5, d6, d7, d8, d9, -⟩ := K.out _ HB.out; clear hb)
    | (go_at_call 109; (with_reducible refine (HBH.out _ HB.out).mono ?_); rintro e w3 ⟨rfl, hb⟩; replace HB := Aside0.mk (HB.out.trans (hb.mono HB.out.size)); obtain ⟨e0, e1, e2, e3, e4, e5, e6, e7, e8, e9, -⟩ := K.out _ HB.out; clear hb))
  go_ret
  exact ⟨rfl, HB0.out.trans (HB.out.mono HB0.out.size)⟩
set_option maxRecDepth 100000 in
set_option maxHeartbeats 2000000 in
theorem dmay_4 (x : En) (hx : x.Wf) (v : Value) (w : World) (h : EnV w v x) (ht : Tbl w) (hk : knd x.ty ≠ 0)(hr : ¬ 15 < x.rt)(hg : ¬ 16 < x.grp) (hn : 100 < x.name.size) :
    Calls Tryd.prog 70 #[v] w fun e w' => e = .returned (.bool false) ∧ Below w.heap.size w w' := by
  obtain ⟨v1, v2, v3, rfl, ⟨A1, a1, rfl, h1⟩, ⟨A2, a2, rfl, h2⟩, ⟨A3, a3, rfl, h3⟩⟩ := h
  have hb0 : Below w.heap.size w (w.alloc (.cells #[.int .u16 x.ix, .int .u8 x.sub, .string x.name, .int .u8 x.ty, .int .u8 x.rt, .slice A1 x.df.length a1, .slice A2 x.lo.length a2, .slice A3 x.hi.length a3, .int .u8 x.tag, .int .u8 x.grp] 121)) := below_alloc (Below.refl _ _) _
  have hrow0 := blk_new w (.cells #[.int .u16 x.ix, .int .u8 x.sub, .string x.name, .int .u8 x.ty, .int .u8 x.rt, .slice A1 x.df.length a1, .slice A2 x.lo.length a2, .slice A3 x.hi.length a3, .int .u8 x.tag, .int .u8 x.grp] 121)
  obtain ⟨W0, hW0⟩ : ∃ W0, w.alloc (.cells #[.int .u16 x.ix, .int .u8 x.sub, .string x.name, .int .u8 x.ty, .int .u8 x.rt, .slice A1 x.df.length a1, .slice A2 x.lo.length a2, .slice A3 x.hi.length a3, .int .u8 x.tag, .int .u8 x.grp] 121) = W0 := ⟨_, rfl⟩
  rw [hW0] at hb0 hrow0
  have K := Aside0.mk fun X (hX : Below W0.heap.size W0 X) => held10 (blk_below hrow0 hX)
  have HT := Aside0.mk (ht.below hb0)
  have hty := hx.ty
  have HE := Aside0.mk (show EnV W0 (.agg #[.int .u16 x.ix, .int .u8 x.sub, .string x.name, .int .u8 x.ty, .int .u8 x.rt, .slice A1 x.df.length a1, .slice A2 x.lo.length a2, .slice A3 x.hi.length a3, .int .u8 x.tag, .int .u8 x.grp]) x from EnV.below (w := w) ⟨_, _, _, rfl, ⟨_, _, rfl, h1⟩, ⟨_, _, rfl, h2⟩, ⟨_, _, rfl, h3⟩⟩ hb0)
  have H2 := Aside0.mk (h2.1.below hb0)
  have H3 := Aside0.mk (h3.1.below hb0)
  have HRI := Aside0.mk (right_any x.ty hty W0 HT.out)
  have HBL := Aside0.mk fun X (hX : Below W0.heap.size W0 X) => dbound_any x.ty hty w.heap.size A2 a2 x.lo X (HT.out.below hX) (K.out X hX).2.2.2.1 (H2.out.below hX)
  have HBH := Aside0.mk fun X (hX : Below W0.heap.size W0 X) => dbound_any x.ty hty w.heap.size A3 a3 x.hi X (HT.out.below hX) (K.out X hX).2.2.2.1 (H3.out.below hX)
  have HB := Aside0.mk (Below.refl W0.heap.size W0)
  have HB0 := Aside0.mk hb0
  obtain ⟨c0, c1, c2, c3, c4, c5, c6, c7, c8, c9, -⟩ := K.out W0 HB.out
  clear h1 h2 h3 ht hb0 hrow0
  have q1 : (knd x.ty != 0) = true := by simpa using hk
  rw [q1] at HRI
  have q2 : decide ((15 : Int) < x.rt) = false := decide_eq_false (by omega)
  have q3 : decide ((16 : Int) < x.grp) = false := decide_eq_false (by omega)
  have q4 : decide ((100 : Int) < (x.name.size : Int)) = true := decide_eq_true (by omega)
  go_enter Tryd.func70, Tryd.ntmps70
  go_wp2_with (first
    | (go_at_call 110; refine HRI.out.mono ?_; rintro e w1 ⟨rfl, hw⟩; rw [hw]; clear hw)
    | (go_at_call 109; (with_reducible refine (HBL.out _ HB.out).mono ?_); rintro e w2 ⟨rfl, hb⟩; replace HB := Aside0.mk (HB.out.trans (hb.mono HB.out.size)); obtain ⟨d0, d1, d2, d3, d4, d5, d6, d7, d8, d9, -⟩ := K.out _ HB.out; clear hb)
    | (go_at_call 109; (with_reducible refine (HBH.out _ HB.out).mono ?_); rintro e w3 ⟨rfl, hb⟩; replace HB := Aside0.mk (HB.out.trans (hb.mono HB.out.size)); obtain ⟨e0, e1, e2, e3, e4, e5, e6, e7, e8, e9, -⟩ := K.out _ HB.out; clear hb))
  go_ret
  exact ⟨rfl, HB0.out.trans (HB.out.mono HB0.out.size)⟩
set_option maxRecDepth 100000 in
set_option maxHeartbeats 2000000 in
theorem dmay_5 (x : En) (hx : x.Wf) (v : Value) (w : World) (h : EnV w v x) (ht : Tbl w) (hk : knd x.ty ≠ 0)(hr : ¬ 15 < x.rt)(hg : ¬ 16 < x.grp)(hn : ¬ 100 < x.name.size) (hl : ¬ bndE x.ty x.lo) :
    Calls Tryd.prog 70 #[v] w fun e w' => e = .returned (.bool false) ∧ Below w.heap.size w w' := by
  obtain ⟨v1, v2, v3, rfl, ⟨A1, a1, rfl, h1⟩, ⟨A2, a2, rfl, h2⟩, ⟨A3, a3, rfl, h3⟩⟩ := h
  have hb0 : Below w.heap.size w (w.alloc (.cells #[.int .u16 x.ix, .int .u8 x.sub, .string x.name, .int .u8 x.ty, .int .u8 x.rt, .slice A1 x.df.length a1, .slice A2 x.lo.length a2, .slice A3 x.hi.length a3, .int .u8 x.tag, .int .u8 x.grp] 121)) := below_alloc (Below.refl _ _) _
  have hrow0 := blk_new w (.cells #[.int .u16 x.ix, .int .u8 x.sub, .string x.name, .int .u8 x.ty, .int .u8 x.rt, .slice A1 x.df.length a1, .slice A2 x.lo.length a2, .slice A3 x.hi.length a3, .int .u8 x.tag, .int .u8 x.grp] 121)
  obtain ⟨W0, hW0⟩ : ∃ W0, w.alloc (.cells #[.int .u16 x.ix, .int .u8 x.sub, .string x.name, .int .u8 x.ty, .int .u8 x.rt, .slice A1 x.df.length a1, .slice A2 x.lo.length a2, .slice A3 x.hi.length a3, .int .u8 x.tag, .int .u8 x.grp] 121) = W0 := ⟨_, rfl⟩
  rw [hW0] at hb0 hrow0
  have K := Aside0.mk fun X (hX : Below W0.heap.size W0 X) => held10 (blk_below hrow0 hX)
  have HT := Aside0.mk (ht.below hb0)
  have hty := hx.ty
  have HE := Aside0.mk (show EnV W0 (.agg #[.int .u16 x.ix, .int .u8 x.sub, .string x.name, .int .u8 x.ty, .int .u8 x.rt, .slice A1 x.df.length a1, .slice A2 x.lo.length a2, .slice A3 x.hi.length a3, .int .u8 x.tag, .int .u8 x.grp]) x from EnV.below (w := w) ⟨_, _, _, rfl, ⟨_, _, rfl, h1⟩, ⟨_, _, rfl, h2⟩, ⟨_, _, rfl, h3⟩⟩ hb0)
  have H2 := Aside0.mk (h2.1.below hb0)
  have H3 := Aside0.mk (h3.1.below hb0)
  have HRI := Aside0.mk (right_any x.ty hty W0 HT.out)
  have HBL := Aside0.mk fun X (hX : Below W0.heap.size W0 X) => dbound_any x.ty hty w.heap.size A2 a2 x.lo X (HT.out.below hX) (K.out X hX).2.2.2.1 (H2.out.below hX)
  have HBH := Aside0.mk fun X (hX : Below W0.heap.size W0 X) => dbound_any x.ty hty w.heap.size A3 a3 x.hi X (HT.out.below hX) (K.out X hX).2.2.2.1 (H3.out.below hX)
  have HB := Aside0.mk (Below.refl W0.heap.size W0)
  have HB0 := Aside0.mk hb0
  obtain ⟨c0, c1, c2, c3, c4, c5, c6, c7, c8, c9, -⟩ := K.out W0 HB.out
  clear h1 h2 h3 ht hb0 hrow0
  have q1 : (knd x.ty != 0) = true := by simpa using hk
  rw [q1] at HRI
  have q2 : decide ((15 : Int) < x.rt) = false := decide_eq_false (by omega)
  have q3 : decide ((16 : Int) < x.grp) = false := decide_eq_false (by omega)
  have q4 : decide ((100 : Int) < (x.name.size : Int)) = false := decide_eq_false (by omega)
  simp only [hl, decide_false] at HBL
  go_enter Tryd.func70, Tryd.ntmps70
  go_wp2_with (first
    | (go_at_call 110; refine HRI.out.mono ?_; rintro e w1 ⟨rfl, hw⟩; rw [hw]; clear hw)
    | (go_at_call 109; (with_reducible refine (HBL.out _ HB.out).mono ?_); rintro e w2 ⟨rfl, hb⟩; replace HB := Aside0.mk (HB.out.trans (hb.mono HB.out.size)); obtain ⟨d0, d1, d2, d3, d4, d5, d6, d7, d8, d9, -⟩ := K.out _ HB.out; clear hb)
    | (go_at_call 109; (with_reducible refine (HBH.out _ HB.out).mono ?_); rintro e w3 ⟨rfl, hb⟩; replace HB := Aside0.mk (HB.out.trans (hb.mono HB.out.size)); obtain ⟨e0, e1, e2, e3, e4, e5, e6, e7, e8, e9, -⟩ := K.out _ HB.out; clear hb))
  go_ret
  exact ⟨rfl, HB0.out.trans (HB.out.mono HB0.out.size)⟩
set_option maxRecDepth 100000 in
set_option maxHeartbeats 2000000 in
theorem dmay_6 (x : En) (hx : x.Wf) (v : Value) (w : World) (h : EnV w v x) (ht : Tbl w) (hk : knd x.ty ≠ 0)(hr : ¬ 15 < x.rt)(hg : ¬ 16 < x.grp)(hn : ¬ 100 < x.name.size)(hl : bndE x.ty x.lo) (hh : ¬ bndE x.ty x.hi) :
    Calls Tryd.prog 70 #[v] w fun e w' => e = .returned (.bool false) ∧ Below w.heap.size w w' := by
  obtain ⟨v1, v2, v3, rfl, ⟨A1, a1, rfl, h1⟩, ⟨A2, a2, rfl, h2⟩, ⟨A3, a3, rfl, h3⟩⟩ := h
  have hb0 : Below w.heap.size w (w.alloc (.cells #[.int .u16 x.ix, .int .u8 x.sub, .string x.name, .int .u8 x.ty, .int .u8 x.rt, .slice A1 x.df.length a1, .slice A2 x.lo.length a2, .slice A3 x.hi.length a3, .int .u8 x.tag, .int .u8 x.grp] 121)) := below_alloc (Below.refl _ _) _
  have hrow0 := blk_new w (.cells #[.int .u16 x.ix, .int .u8 x.sub, .string x.name, .int .u8 x.ty, .int .u8 x.rt, .slice A1 x.df.length a1, .slice A2 x.lo.length a2, .slice A3 x.hi.length a3, .int .u8 x.tag, .int .u8 x.grp] 121)
  obtain ⟨W0, hW0⟩ : ∃ W0, w.alloc (.cells #[.int .u16 x.ix, .int .u8 x.sub, .string x.name, .int .u8 x.ty, .int .u8 x.rt, .slice A1 x.df.length a1, .slice A2 x.lo.length a2, .slice A3 x.hi.length a3, .int .u8 x.tag, .int .u8 x.grp] 121) = W0 := ⟨_, rfl⟩
  rw [hW0] at hb0 hrow0
  have K := Aside0.mk fun X (hX : Below W0.heap.size W0 X) => held10 (blk_below hrow0 hX)
  have HT := Aside0.mk (ht.below hb0)
  have hty := hx.ty
  have HE := Aside0.mk (show EnV W0 (.agg #[.int .u16 x.ix, .int .u8 x.sub, .string x.name, .int .u8 x.ty, .int .u8 x.rt, .slice A1 x.df.length a1, .slice A2 x.lo.length a2, .slice A3 x.hi.length a3, .int .u8 x.tag, .int .u8 x.grp]) x from EnV.below (w := w) ⟨_, _, _, rfl, ⟨_, _, rfl, h1⟩, ⟨_, _, rfl, h2⟩, ⟨_, _, rfl, h3⟩⟩ hb0)
  have H2 := Aside0.mk (h2.1.below hb0)
  have H3 := Aside0.mk (h3.1.below hb0)
  have HRI := Aside0.mk (right_any x.ty hty W0 HT.out)
  have HBL := Aside0.mk fun X (hX : Below W0.heap.size W0 X) => dbound_any x.ty hty w.heap.size A2 a2 x.lo X (HT.out.below hX) (K.out X hX).2.2.2.1 (H2.out.below hX)
  have HBH := Aside0.mk fun X (hX : Below W0.heap.size W0 X) => dbound_any x.ty hty w.heap.size A3 a3 x.hi X (HT.out.below hX) (K.out X hX).2.2.2.1 (H3.out.below hX)
  have HB := Aside0.mk (Below.refl W0.heap.size W0)
  have HB0 := Aside0.mk hb0
  obtain ⟨c0, c1, c2, c3, c4, c5, c6, c7, c8, c9, -⟩ := K.out W0 HB.out
  clear h1 h2 h3 ht hb0 hrow0
  have q1 : (knd x.ty != 0) = true := by simpa using hk
  rw [q1] at HRI
  have q2 : decide ((15 : Int) < x.rt) = false := decide_eq_false (by omega)
  have q3 : decide ((16 : Int) < x.grp) = false := decide_eq_false (by omega)
  have q4 : decide ((100 : Int) < (x.name.size : Int)) = false := decide_eq_false (by omega)
  simp only [hl, decide_true] at HBL
  simp only [hh, decide_false] at HBH
  go_enter Tryd.func70, Tryd.ntmps70
  go_wp2_with (first
    | (go_at_call 110; refine HRI.out.mono ?_; rintro e w1 ⟨rfl, hw⟩; rw [hw]; clear hw)
    | (go_at_call 109; (with_reducible refine (HBL.out _ HB.out).mono ?_); rintro e w2 ⟨rfl, hb⟩; replace HB := Aside0.mk (HB.out.trans (hb.mono HB.out.size)); obtain ⟨d0, d1, d2, d3, d4, d5, d6, d7, d8, d9, -⟩ := K.out _ HB.out; clear hb)
    | (go_at_call 109; (with_reducible refine (HBH.out _ HB.out).mono ?_); rintro e w3 ⟨rfl, hb⟩; replace HB := Aside0.mk (HB.out.trans (hb.mono HB.out.size)); obtain ⟨e0, e1, e2, e3, e4, e5, e6, e7, e8, e9, -⟩ := K.out _ HB.out; clear hb))
  go_ret
  exact ⟨rfl, HB0.out.trans (HB.out.mono HB0.out.size)⟩
set_option maxRecDepth 100000 in
set_option maxHeartbeats 2000000 in
theorem dmay_7 (x : En) (hx : x.Wf) (v : Value) (w : World) (h : EnV w v x) (ht : Tbl w) (hk : knd x.ty ≠ 0)(hr : ¬ 15 < x.rt)(hg : ¬ 16 < x.grp)(hn : ¬ 100 < x.name.size)(hl : bndE x.ty x.lo)(hh : bndE x.ty x.hi) :
    Calls Tryd.prog 70 #[v] w fun e w' => e = .returned (.bool (chkC x.ty (firstC x) x.lo x.hi == 0)) ∧ Below w.heap.size w w' := by
  obtain ⟨v1, v2, v3, rfl, ⟨A1, a1, rfl, h1⟩, ⟨A2, a2, rfl, h2⟩, ⟨A3, a3, rfl, h3⟩⟩ := h
  have hb0 : Below w.heap.size w (w.alloc (.cells #[.int .u16 x.ix, .int .u8 x.sub, .string x.name, .int .u8 x.ty, .int .u8 x.rt, .slice A1 x.df.length a1, .slice A2 x.lo.length a2, .slice A3 x.hi.length a3, .int .u8 x.tag, .int .u8 x.grp] 121)) := below_alloc (Below.refl _ _) _
  have hrow0 := blk_new w (.cells #[.int .u16 x.ix, .int .u8 x.sub, .string x.name, .int .u8 x.ty, .int .u8 x.rt, .slice A1 x.df.length a1, .slice A2 x.lo.length a2, .slice A3 x.hi.length a3, .int .u8 x.tag, .int .u8 x.grp] 121)
  obtain ⟨W0, hW0⟩ : ∃ W0, w.alloc (.cells #[.int .u16 x.ix, .int .u8 x.sub, .string x.name, .int .u8 x.ty, .int .u8 x.rt, .slice A1 x.df.length a1, .slice A2 x.lo.length a2, .slice A3 x.hi.length a3, .int .u8 x.tag, .int .u8 x.grp] 121) = W0 := ⟨_, rfl⟩
  rw [hW0] at hb0 hrow0
  have K := Aside0.mk fun X (hX : Below W0.heap.size W0 X) => held10 (blk_below hrow0 hX)
  have HT := Aside0.mk (ht.below hb0)
  have hty := hx.ty
  have HE := Aside0.mk (show EnV W0 (.agg #[.int .u16 x.ix, .int .u8 x.sub, .string x.name, .int .u8 x.ty, .int .u8 x.rt, .slice A1 x.df.length a1, .slice A2 x.lo.length a2, .slice A3 x.hi.length a3, .int .u8 x.tag, .int .u8 x.grp]) x from EnV.below (w := w) ⟨_, _, _, rfl, ⟨_, _, rfl, h1⟩, ⟨_, _, rfl, h2⟩, ⟨_, _, rfl, h3⟩⟩ hb0)
  have H2 := Aside0.mk (h2.1.below hb0)
  have H3 := Aside0.mk (h3.1.below hb0)
  have HRI := Aside0.mk (right_any x.ty hty W0 HT.out)
  have HBL := Aside0.mk fun X (hX : Below W0.heap.size W0 X) => dbound_any x.ty hty w.heap.size A2 a2 x.lo X (HT.out.below hX) (K.out X hX).2.2.2.1 (H2.out.below hX)
  have HBH := Aside0.mk fun X (hX : Below W0.heap.size W0 X) => dbound_any x.ty hty w.heap.size A3 a3 x.hi X (HT.out.below hX) (K.out X hX).2.2.2.1 (H3.out.below hX)
  have HB := Aside0.mk (Below.refl W0.heap.size W0)
  have HB0 := Aside0.mk hb0
  obtain ⟨c0, c1, c2, c3, c4, c5, c6, c7, c8, c9, -⟩ := K.out W0 HB.out
  clear h1 h2 h3 ht hb0 hrow0
  have q1 : (knd x.ty != 0) = true := by simpa using hk
  rw [q1] at HRI
  have q2 : decide ((15 : Int) < x.rt) = false := decide_eq_false (by omega)
  have q3 : decide ((16 : Int) < x.grp) = false := decide_eq_false (by omega)
  have q4 : decide ((100 : Int) < (x.name.size : Int)) = false := decide_eq_false (by omega)
  simp only [hl, decide_true] at HBL
  simp only [hh, decide_true] at HBH
  go_enter Tryd.func70, Tryd.ntmps70
  go_wp2_with (first
    | (go_at_call 110; refine HRI.out.mono ?_; rintro e w1 ⟨rfl, hw⟩; rw [hw]; clear hw)
    | (go_at_call 109; (with_reducible refine (HBL.out _ HB.out).mono ?_); rintro e w2 ⟨rfl, hb⟩; replace HB := Aside0.mk (HB.out.trans (hb.mono HB.out.size)); obtain ⟨d0, d1, d2, d3, d4, d5, d6, d7, d8, d9, -⟩ := K.out _ HB.out; clear hb)
    | (go_at_call 109; (with_reducible refine (HBH.out _ HB.out).mono ?_); rintro e w3 ⟨rfl, hb⟩; replace HB := Aside0.mk (HB.out.trans (hb.mono HB.out.size)); obtain ⟨e0, e1, e2, e3, e4, e5, e6, e7, e8, e9, -⟩ := K.out _ HB.out; clear hb))
  have hS0 : Below W0.heap.size W0 w3 := HB.out
  have z3 := fun X hX => (K.out X hX).2.2.2.1
  have z0 := fun X hX => (K.out X hX).1
  have z1 := fun X hX => (K.out X hX).2.1
  have z2 := fun X hX => (K.out X hX).2.2.1
  have z4 := fun X hX => (K.out X hX).2.2.2.2.1
  have z5 := fun X hX => (K.out X hX).2.2.2.2.2.1
  have z6 := fun X hX => (K.out X hX).2.2.2.2.2.2.1
  have z7 := fun X hX => (K.out X hX).2.2.2.2.2.2.2.1
  have z8 := fun X hX => (K.out X hX).2.2.2.2.2.2.2.2.1
  have z9 := fun X hX => (K.out X hX).2.2.2.2.2.2.2.2.2.1
  clear c0 c1 c2 c3 c4 c5 c6 c7 c8 c9 d0 d1 d2 d3 d4 d5 d6 d7 d8 d9 e0 e1 e2 e3 e4 e5 e6 e7 e8 e9
  go_region_held3 (fun X => Below W0.heap.size W0 X) (first | assumption | exact below_step (by assumption) (by assumption) | exact below_drew (by assumption))
    (first
      | (go_at_call 72; refine (first_any x hx _ _ (HE.out.below (by assumption)) (HT.out.below (by assumption))).mono ?_; rintro e w4 ⟨v5, rfl, hv5, hb4⟩; have HB4 := Aside0.mk hb4; obtain ⟨A5, a5, rfl, hv5⟩ := hv5; have HV5 := Aside0.mk hv5; clear hv5)
      | (go_at_call 78; refine (check_any x.ty hty A5 a5 (firstC x) A2 a2 x.lo A3 a3 x.hi _ (HT.out.below (by assumption)) HV5.out.1 (H2.out.below (by assumption)) (H3.out.below (by assumption))).mono ?_; rintro e w5 ⟨rfl, hb5⟩))
  go_wp2
  go_ret
  exact ⟨by rfl, HB0.out.trans ((show Below W0.heap.size W0 _ by assumption).mono HB0.out.size)⟩
end Go.Proofs.YtokebpeplopjhaaDoor.Mp
namespace Go.Proofs.YtokebpeplopjhaaDoor.Mp
open Go.RowKit Go.Shelf Go.Proofs.YtokebpeplopjhaaDoor.Rng Go.Proofs.YtokebpeplopjhaaDoorW.PrintWords Go.Proofs.YtokebpeplopjhaaDoorW.PrintMore Go.Proofs.YtokebpeplopjhaaDoorW.PrintLast

/-- An entry's rows lie at or beyond block n. -/
def EnO (n : Nat) (v : Value) : Prop := ∀ (c : Array Value), v = .agg c → ∀ j A m cap, (j = 5 ∨ j = 6 ∨ j = 7) → c[j]? = some (.slice A m cap) → Off (fun k => k < n) A m
def LndSaid (w : World) (x : En) (r : Ending) (w' : World) : Prop := ∃ v, r = .returned v ∧ EnV w' v x ∧ Below w.heap.size w w' ∧ EnO w.heap.size v
theorem off_two {n j : Nat} {A : Option Addr} {l : Nat} (h : Off (fun k => k < n) A l) (hj : j + 1 < n) : Off (fun k => k = j ∨ k = j + 1) A l := fun ad e hn hk => h ad e hn (by show ad.block < n; rcases hk with hk | hk <;> omega)
theorem R_offB {w : World} {e base n : Nat} {ok : Nat → Prop} {A : Option Addr} {l c : Nat} {a : List Int} (h : Kd.R kB e w base ok (.slice A l c) a) (hn : n ≤ base) : Off (fun j => j < n) A a.length := by
  intro ad hA hl hj
  obtain ⟨g, cap, hv, hg, _, _⟩ := Kd.R_form h hl
  injection hv with h1 _ _
  rw [hA] at h1
  injection h1 with h1
  rw [h1] at hj
  have : g < n := hj
  omega
theorem offm {n m : Nat} {A : Option Addr} {l : Nat} (h : Off (fun k => k < n) A l) (hm : m ≤ n) : Off (fun k => k < m) A l := fun ad e hn hk => h ad e hn (Nat.lt_of_lt_of_le hk hm)
theorem enO_mk {n : Nat} {v0 v1 v2 v3 v4 v8 v9 : Value} {A1 A2 A3 : Option Addr} {m1 m2 m3 c1 c2 c3 : Nat} (h1 : Off (fun k => k < n) A1 m1) (h2 : Off (fun k => k < n) A2 m2) (h3 : Off (fun k => k < n) A3 m3) : EnO n (.agg #[v0, v1, v2, v3, v4, .slice A1 m1 c1, .slice A2 m2 c2, .slice A3 m3 c3, v8, v9]) := by
  intro c hc j A m cap hj he
  injection hc with hc
  subst hc
  rcases hj with rfl | rfl | rfl
  · simp at he
    obtain ⟨rfl, rfl, rfl⟩ := he
    exact h1
  · simp at he
    obtain ⟨rfl, rfl, rfl⟩ := he
    exact h2
  · simp at he
    obtain ⟨rfl, rfl, rfl⟩ := he
    exact h3
theorem info_en : (Tryd.prog.info? 121).map (·.size) = some 10 := by kernel_rfl
theorem R_off2 {w : World} {e base k : Nat} {ok : Nat → Prop} {A : Option Addr} {n c : Nat} {a : List Int} (h : Kd.R kB e w base ok (.slice A n c) a) (hk : k + 1 < base) : Off (fun j => j = k ∨ j = k + 1) A a.length :=
  fun ad hA hn hj => by
    rcases hj with hj | hj
    · exact R_off (k := k) h (by omega) ad hA hn hj
    · exact R_off (k := k + 1) h (by omega) ad hA hn hj
theorem putAt10 (u0 u1 u2 u3 u4 u5 u6 u7 u8 u9 v0 v1 v2 v3 v4 v5 v6 v7 v8 v9 : Value) : putAt #[u0, u1, u2, u3, u4, u5, u6, u7, u8, u9] 0 [v0, v1, v2, v3, v4, v5, v6, v7, v8, v9] = #[v0, v1, v2, v3, v4, v5, v6, v7, v8, v9] := by simp [putAt]
theorem cells10 (W : World) (g : Nat) (v0 v1 v2 v3 v4 v5 v6 v7 v8 v9 : Value) :
    (((((((((W.setCell ⟨g, 0, none⟩ v0).setCell ⟨g, 1, none⟩ v1).setCell ⟨g, 2, none⟩ v2).setCell ⟨g, 3, none⟩ v3).setCell ⟨g, 4, none⟩ v4).setCell ⟨g, 5, none⟩ v5).setCell ⟨g, 6, none⟩ v6).setCell ⟨g, 7, none⟩ v7).setCell ⟨g, 8, none⟩ v8).setCell ⟨g, 9, none⟩ v9 = W.setCells g 0 [v0, v1, v2, v3, v4, v5, v6, v7, v8, v9] := rfl
theorem row10 {W : World} {g : Nat} {t : TypeId} {u0 u1 u2 u3 u4 u5 u6 u7 u8 u9 : Value} (h : W.heap[g]? = some (.cells #[u0, u1, u2, u3, u4, u5, u6, u7, u8, u9] t (0, 0))) (v0 v1 v2 v3 v4 v5 v6 v7 v8 v9 : Value) :
    (W.setCells g 0 [v0, v1, v2, v3, v4, v5, v6, v7, v8, v9]).heap[g]? = some (.cells #[v0, v1, v2, v3, v4, v5, v6, v7, v8, v9] t (0, 0)) := by
  rw [← putAt10 u0 u1 u2 u3 u4 u5 u6 u7 u8 u9]
  exact heap_setCells _ _ _ _ h
theorem lend_end {tmps : Array Value} {W : World} {b : Nat} {cs : Array Value} {t : TypeId} (h4 : tmps.getD 2 undef = .pointer (some ⟨b, 0, none⟩)) (hb : W.heap[b]? = some (.cells cs t (0, 0))) (hs : cs.size = 10) :
    (results Tryd.f71 tmps).run Tryd.prog W = .ok (.agg cs) W :=
  results_single rfl (.cell b t cs (0, 0) _ h4 hb Tryd.underlying121 rfl (by rw [info_en, hs]) .nil)
/-- A row of bytes and a block that it does not lie in. -/
def ArgO (j : Nat) (w : World) (v : Value) (l : List Int) : Prop := ∃ A c, v = .slice A l.length c ∧ Arg w A c l ∧ l.length ≤ 140737488355328 ∧ Off (fun k => k = j) A l.length
theorem ArgV.off {w : World} {A : Option Addr} {n c : Nat} {l : List Int} {j : Nat} (h : ArgV w (.slice A n c) l) (ho : Off (fun k => k = j) A l.length) : ArgO j w (.slice A n c) l := by
  obtain ⟨A', c', e, q1, q2⟩ := h
  injection e with e1 e2 e3
  subst e1 e2 e3
  exact ⟨A, c, rfl, q1, q2, ho⟩
theorem ArgO.set {w w' : World} {v : Value} {l : List Int} {j : Nat} (h : ArgO j w v l) (hf : Fr (fun k => k = j) w w') : ArgV w' v l := by
  obtain ⟨A, c, e, q1, q2, ho⟩ := h
  exact ⟨A, c, e, ⟨q1.rd.fr hf ho, q1.byt, q1.le, q1.cap⟩, q2⟩
/-- A value that lies below the block that is then written. -/
def ArgN (g : Nat) (w : World) (v : Value) (l : List Int) : Prop := ∃ A c, v = .slice A l.length c ∧ Arg w A c l ∧ l.length ≤ 140737488355328 ∧ Off (fun k => k = g) A l.length
theorem fr_cells {g : Nat} : ∀ (vs : List Value) (o : Nat) (w : World), Fr (fun k => k = g) w (w.setCells g o vs)
  | [], _, _ => Fr.refl _ _
  | v :: r, o, w => (Fr.setCell (M := fun k => k = g) w ⟨g, o, none⟩ v (.inl rfl)).trans (fr_cells r (o + 1) (w.setCell ⟨g, o, none⟩ v))
theorem ArgN.cellsO {g : Nat} {w : World} {v : Value} {l : List Int} (h : ArgN g w v l) (o : Nat) (vs : List Value) : ArgV (w.setCells g o vs) v l := by
  obtain ⟨A, c, e, q1, q2, ho⟩ := h
  exact ⟨A, c, e, ⟨q1.rd.fr (fr_cells vs o w) ho, q1.byt, q1.le, q1.cap⟩, q2⟩
theorem lend_mid {w W2 w3 : World} {x : En} {A1 A2 A3 B1 B2 B3 : Option Addr} {a1 a2 a3 b1 b2 b3 : Nat} (hW : Below W2.heap.size W2 w3) (hB : Below w.heap.size w W2)
    (hk : w3.heap[w.heap.size]? = some (.cells #[.int .u16 x.ix, .int .u8 x.sub, .string x.name, .int .u8 x.ty, .int .u8 x.rt, .slice A1 x.df.length a1, .slice A2 x.lo.length a2, .slice A3 x.hi.length a3, .int .u8 x.tag, .int .u8 x.grp] 121 (0, 0))) (hr : w3.heap[w.heap.size + 1]? = some (.cells #[.int .u16 0, .int .u8 0, .string { data := #[] }, .int .u8 0, .int .u8 0, .slice none 0 0, .slice none 0 0, .slice none 0 0, .int .u8 0, .int .u8 0] 121 (0, 0)))
    (h1 : ArgV w3 (.slice B1 x.df.length b1) x.df) (h2 : ArgV w3 (.slice B2 x.lo.length b2) x.lo) (h3 : ArgV w3 (.slice B3 x.hi.length b3) x.hi) (o1 : Off (fun k => k = w.heap.size ∨ k = w.heap.size + 1) B1 x.df.length) (o2 : Off (fun k => k = w.heap.size ∨ k = w.heap.size + 1) B2 x.lo.length) (o3 : Off (fun k => k = w.heap.size ∨ k = w.heap.size + 1) B3 x.hi.length) :
    ∃ W4, Below w.heap.size w W4 ∧ W4.heap[w.heap.size]? = some (.cells #[.int .u16 x.ix, .int .u8 x.sub, .string x.name, .int .u8 x.ty, .int .u8 x.rt, .slice B1 x.df.length b1, .slice B2 x.lo.length b2, .slice B3 x.hi.length b3, .int .u8 x.tag, .int .u8 x.grp] 121 (0, 0)) ∧ W4.heap[w.heap.size + 1]? = some (.cells #[.int .u16 0, .int .u8 0, .string { data := #[] }, .int .u8 0, .int .u8 0, .slice none 0 0, .slice none 0 0, .slice none 0 0, .int .u8 0, .int .u8 0] 121 (0, 0)) ∧
      ArgN (w.heap.size + 1) W4 (.slice B1 x.df.length b1) x.df ∧ ArgN (w.heap.size + 1) W4 (.slice B2 x.lo.length b2) x.lo ∧ ArgN (w.heap.size + 1) W4 (.slice B3 x.hi.length b3) x.hi ∧ (((w3.setCell ⟨w.heap.size, 5, none⟩ (.slice B1 x.df.length b1)).setCell ⟨w.heap.size, 6, none⟩ (.slice B2 x.lo.length b2)).setCell ⟨w.heap.size, 7, none⟩ (.slice B3 x.hi.length b3)) = W4 := by
  have f1 : Fr (fun k => k = w.heap.size) w3 (((w3.setCell ⟨w.heap.size, 5, none⟩ (.slice B1 x.df.length b1)).setCell ⟨w.heap.size, 6, none⟩ (.slice B2 x.lo.length b2)).setCell ⟨w.heap.size, 7, none⟩ (.slice B3 x.hi.length b3)) := ((Fr.setCell (M := fun k => k = w.heap.size) w3 ⟨w.heap.size, 5, none⟩ _ (.inl rfl)).trans (Fr.setCell (M := fun k => k = w.heap.size) _ ⟨w.heap.size, 6, none⟩ _ (.inl rfl))).trans (Fr.setCell (M := fun k => k = w.heap.size) _ ⟨w.heap.size, 7, none⟩ _ (.inl rfl))
  have mk : ∀ {B b l}, ArgV w3 (.slice B l.length b) l → Off (fun k => k = w.heap.size ∨ k = w.heap.size + 1) B l.length → ArgN (w.heap.size + 1) (((w3.setCell ⟨w.heap.size, 5, none⟩ (.slice B1 x.df.length b1)).setCell ⟨w.heap.size, 6, none⟩ (.slice B2 x.lo.length b2)).setCell ⟨w.heap.size, 7, none⟩ (.slice B3 x.hi.length b3)) (.slice B l.length b) l := by
    intro B b l h ho
    obtain ⟨A', c', e, q1, q2⟩ := h
    injection e with e1 e2 e3
    subst e1 e3
    exact ⟨B, b, rfl, ⟨q1.rd.fr f1 (fun ad e hn hk => ho ad e hn (.inl hk)), q1.byt, q1.le, q1.cap⟩, q2, fun ad e hn hk => ho ad e hn (.inr hk)⟩
  refine ⟨_, (below_step hB hW).trans (f1.below (B := w.heap.size) (fun k hk => ⟨?_, ?_⟩)), ?_, (f1.block _ (blk_lt hr) (by omega)).trans hr, mk h1 o1, mk h2 o2, mk h3 o3, rfl⟩
  · have := (below_step hB hW).size
    omega
  · omega
  · have p1 := blk_put (blk_put (blk_put hk 5 (.slice B1 x.df.length b1) rfl) 6 (.slice B2 x.lo.length b2) rfl) 7 (.slice B3 x.hi.length b3) rfl
    simp only [List.setIfInBounds_toArray, List.set_cons_succ, List.set_cons_zero] at p1
    exact p1
set_option maxRecDepth 100000 in
set_option maxHeartbeats 8000000 in
theorem lend_any (x : En) (v : Value) (w : World) (h : EnV w v x) :
    Calls Tryd.prog 71 #[v] w (LndSaid w x) := by
  obtain ⟨v1, v2, v3, rfl, ⟨A1, a1, rfl, h1⟩, ⟨A2, a2, rfl, h2⟩, ⟨A3, a3, rfl, h3⟩⟩ := h
  have H1 := Aside0.mk fun W (hW : Below w.heap.size w W) => clone_arg A1 a1 x.df W (ArgV.below (w := w) ⟨_, _, rfl, h1⟩ hW)
  have H2 := Aside0.mk fun W (hW : Below w.heap.size w W) => clone_arg A2 a2 x.lo W (ArgV.below (w := w) ⟨_, _, rfl, h2⟩ hW)
  have H3 := Aside0.mk fun W (hW : Below w.heap.size w W) => clone_arg A3 a3 x.hi W (ArgV.below (w := w) ⟨_, _, rfl, h3⟩ hW)
  clear h1 h2 h3
  go_enter Tryd.func71, Tryd.ntmps71
  go_wp2
  obtain ⟨W2, hW2⟩ : ∃ W2, ((w.alloc (.cells #[.int .u16 x.ix, .int .u8 x.sub, .string x.name, .int .u8 x.ty, .int .u8 x.rt, .slice A1 x.df.length a1, .slice A2 x.lo.length a2, .slice A3 x.hi.length a3, .int .u8 x.tag, .int .u8 x.grp] 121)).alloc (.cells #[.int .u16 0, .int .u8 0, .string { data := #[] }, .int .u8 0, .int .u8 0, .slice none 0 0, .slice none 0 0, .slice none 0 0, .int .u8 0, .int .u8 0] 121)) = W2 := ⟨_, rfl⟩
  have hb2 : Below w.heap.size w W2 := hW2 ▸ (below_alloc (Below.refl _ _) _).alloc (by simp) _
  have hp2 : W2.heap[w.heap.size]? = some (.cells #[.int .u16 x.ix, .int .u8 x.sub, .string x.name, .int .u8 x.ty, .int .u8 x.rt, .slice A1 x.df.length a1, .slice A2 x.lo.length a2, .slice A3 x.hi.length a3, .int .u8 x.tag, .int .u8 x.grp] 121 (0, 0)) := hW2 ▸ blk_alloc (blk_new _ _) _
  have hr2 : W2.heap[w.heap.size + 1]? = some (.cells #[.int .u16 0, .int .u8 0, .string { data := #[] }, .int .u8 0, .int .u8 0, .slice none 0 0, .slice none 0 0, .slice none 0 0, .int .u8 0, .int .u8 0] 121 (0, 0)) := by
    have := blk_new (w.alloc (.cells #[.int .u16 x.ix, .int .u8 x.sub, .string x.name, .int .u8 x.ty, .int .u8 x.rt, .slice A1 x.df.length a1, .slice A2 x.lo.length a2, .slice A3 x.hi.length a3, .int .u8 x.tag, .int .u8 x.grp] 121)) (.cells #[.int .u16 0, .int .u8 0, .string { data := #[] }, .int .u8 0, .int .u8 0, .slice none 0 0, .slice none 0 0, .slice none 0 0, .int .u8 0, .int .u8 0] 121)
    rw [World.size_alloc, hW2] at this
    exact this
  rw [hW2]
  have K := Aside0.mk fun X (hX : Below W2.heap.size W2 X) => held10 (blk_below hp2 hX)
  have KR := Aside0.mk fun X (hX : Below W2.heap.size W2 X) => blk_below hr2 hX
  have KP := Aside0.mk fun X (hX : Below W2.heap.size W2 X) => blk_below hp2 hX
  have HB2 := Aside0.mk hb2
  have HSZ := Aside0.mk (show w.heap.size + 1 < W2.heap.size by rw [← hW2]; simp)
  have HW := Aside0.mk (Below.refl W2.heap.size W2).drew
  obtain ⟨c0, c1, c2, c3, c4, c5, c6, c7, c8, c9, cf⟩ := held10 hp2
  clear hW2 hb2 hp2 hr2
  go_region_with (first
    | (go_at_call 77; (with_reducible refine (H1.out _ (below_step HB2.out HW.out)).mono ?_); rintro e w1 ⟨v1, rfl, hR, hA, hb⟩; have HSZ1 := Aside0.mk HW.out.size; replace HW := Aside0.mk (below_step HW.out hb); have HA1 := Aside0.mk hA; obtain ⟨B1, b1, rfl, -⟩ := hA; have HO1 := Aside0.mk (R_offB (n := W2.heap.size) hR HSZ1.out); clear hR hb; obtain ⟨c0, c1, c2, c3, c4, c5, c6, c7, c8, c9, cf⟩ := K.out _ HW.out)
    | (go_at_call 77; (with_reducible refine (H2.out _ (below_step HB2.out HW.out)).mono ?_); rintro e w2 ⟨v2, rfl, hR, hA, hb⟩; have HSZ2 := Aside0.mk HW.out.size; have HS2 := Aside0.mk hb; replace HW := Aside0.mk (below_step HW.out hb); have HA2 := Aside0.mk hA; obtain ⟨B2, b2, rfl, -⟩ := hA; have HO2 := Aside0.mk (R_offB (n := W2.heap.size) hR HSZ2.out); clear hR hb; obtain ⟨c0, c1, c2, c3, c4, c5, c6, c7, c8, c9, cf⟩ := K.out _ HW.out)
    | (go_at_call 77; (with_reducible refine (H3.out _ (below_step HB2.out HW.out)).mono ?_); rintro e w3 ⟨v3, rfl, hR, hA, hb⟩; have HSZ3 := Aside0.mk HW.out.size; have HS3 := Aside0.mk hb; replace HW := Aside0.mk (below_step HW.out hb); have HA3 := Aside0.mk hA; obtain ⟨B3, b3, rfl, -⟩ := hA; have HO3 := Aside0.mk (R_offB (n := W2.heap.size) hR HSZ3.out); clear hR hb; obtain ⟨c0, c1, c2, c3, c4, c5, c6, c7, c8, c9, cf⟩ := K.out _ HW.out))
  all_goals
    obtain ⟨W4, q1, p1, r1, g1, g2, g3, hW4⟩ := lend_mid HW.out HB2.out (KP.out _ HW.out) (KR.out _ HW.out) ((HA1.out.below HS2.out).below HS3.out) (HA2.out.below HS3.out) HA3.out (off_two HO1.out HSZ.out) (off_two HO2.out HSZ.out) (off_two HO3.out HSZ.out)
    rw [hW4]
    obtain ⟨m0, m1, m2, m3, m4, m5, m6, m7, m8, m9, -⟩ := held10 p1
    obtain ⟨k0, k1, k2, k3, k4, k5, k6, k7, k8, k9, kf⟩ := held10 r1
    have HQ1 := Aside0.mk q1
    have HR1 := Aside0.mk r1
    have HG := Aside0.mk (And.intro g1 (And.intro g2 g3))
    clear hW4 q1 p1 r1 g1 g2 g3 c0 c1 c2 c3 c4 c5 c6 c7 c8 c9 cf
    go_wp2
    rw [cells10]
    refine bodyPost_ret (lend_end (b := w.heap.size + 1) (cs := #[.int .u16 x.ix, .int .u8 x.sub, .string x.name, .int .u8 x.ty, .int .u8 x.rt, .slice B1 x.df.length b1, .slice B2 x.lo.length b2, .slice B3 x.hi.length b3, .int .u8 x.tag, .int .u8 x.grp]) (t := 121) rfl ?_ rfl) rfl ⟨_, rfl, ⟨_, _, _, rfl, ?_, ?_, ?_⟩, ?_, enO_mk (offm HO1.out (Nat.le_of_lt (Nat.lt_of_succ_lt HSZ.out))) (offm HO2.out (Nat.le_of_lt (Nat.lt_of_succ_lt HSZ.out))) (offm HO3.out (Nat.le_of_lt (Nat.lt_of_succ_lt HSZ.out)))⟩
    · exact row10 HR1.out ..
    · exact (HG.out.1).cellsO _ _
    · exact (HG.out.2.1).cellsO _ _
    · exact (HG.out.2.2).cellsO _ _
    · exact below_cells (by omega) _ _ HQ1.out
end Go.Proofs.YtokebpeplopjhaaDoor.Mp
namespace Go.Proofs.YtokebpeplopjhaaDoor.Mp
open Go.RowKit Go.Shelf Go.Proofs.YtokebpeplopjhaaDoor.Rng Go.Proofs.YtokebpeplopjhaaDoorW.PrintWords Go.Proofs.YtokebpeplopjhaaDoorW.PrintMore Go.Proofs.YtokebpeplopjhaaDoorW.PrintLast

instance (e : En) : Decidable (mayC chkC e) := by unfold mayC; infer_instance
/-- A dictionary of entries, one behind the other; or why there is none. -/
def newC : List En → DD → Int × DD
  | [], d => (0, d)
  | e :: r, d => if ¬ mayC chkC e then (80, d) else if (d.D e.ix e.sub).isSome = true then (6, d) else newC r (d.add e)
/-- A row of entries. -/
def EsAt (w : World) (A : Option Addr) (l : List En) : Prop := ∀ j e, l[j]? = some e → ∃ ad v1 v2 v3, A = some ad ∧ (∀ (i : Nat) u, (e.cells v1 v2 v3)[i]? = some u → w.cell? (ad.add (j * 10 + i)) = some u) ∧ ArgV w v1 e.df ∧ ArgV w v2 e.lo ∧ ArgV w v3 e.hi
theorem EsAt.below {w w' : World} {A : Option Addr} {l : List En} (h : EsAt w A l) (hb : Below w.heap.size w w') : EsAt w' A l := by
  intro j e hj
  obtain ⟨ad, v1, v2, v3, hA, hc, h1, h2, h3⟩ := h j e hj
  exact ⟨ad, v1, v2, v3, hA, fun i u hu => pw_cell_below hb (hc i u hu), h1.below hb, h2.below hb, h3.below hb⟩
/-- A store into the map of counts. -/
theorem DictAt.storeS {B : Nat} {w : World} {g : Nat} {d : DD} {bi bs n m : Nat} {fi fs : Value → Option Value} (h : DictAt B w g d bi bs n m fi fs) {i : Int} (hi : 0 ≤ i ∧ i < 65536) (c : Int) :
    ∃ o, (Instr.mapUpdate 123 (.map (some bs)) (.int .u16 i) (.int .i64 c)).run Tryd.prog w = .ok () (ChangeMaps.setBlock w bs o) ∧
      ∃ f', DictAt B (ChangeMaps.setBlock w bs o) g ⟨d.D, fun i' => if i' = i then c else d.S i', d.c⟩ bi bs n (m + 1) fi f' ∧ Fr (fun k => k = bs) w (ChangeMaps.setBlock w bs o) := by
  obtain ⟨f', hf1, hf2⟩ : ∃ f' : Value → Option Value, f' (.int .u16 i) = some (.int .i64 c) ∧ ∀ y, y ≠ .int .u16 i → f' y = fs y := by
    classical
    exact ⟨fun y => if y = .int .u16 i then some (.int .i64 c) else fs y, by simp, fun y hy => by simp [hy]⟩
  obtain ⟨o, h1, h2⟩ := h.subs.put law_u16 Tryd.underlying123 (key_u16 hi) (.int .i64 c) hf1 hf2
  have hfr : Fr (fun k => k = bs) w (ChangeMaps.setBlock w bs o) := ⟨rfl, rfl, rfl, by simp [ChangeMaps.setBlock], fun k hk hm => by
    simp only [ChangeMaps.setBlock]
    rw [Array.getElem?_setIfInBounds_ne (fun e => hm e.symm)]⟩
  have hgb : g ≠ bs := by
    intro e
    have hb := h.blk
    obtain ⟨es, clock, he, _⟩ := h.subs
    rw [e, he] at hb
    cases hb
  have hnb : NoByte w (fun k => k = bs) := fun p y hp hc => by
    obtain ⟨es, clock, he, _⟩ := h.subs
    unfold World.cell? at hc
    rw [hp, he] at hc
    cases hc
  refine ⟨o, h1, f', ⟨?_, h.base, ?_, h2, h.no, ?_, ?_⟩, hfr⟩
  · exact (hfr.block g (blk_lt h.blk) hgb).trans h.blk
  · exact h.items.block (hfr.block bi h.items.lt h.base.2.2.2)
  · intro i' s' y hi' hs' hd
    obtain ⟨u, hu1, hu2⟩ := h.yes i' s' y hi' hs' hd
    exact ⟨u, hu1, hu2.fr hfr hnb⟩
  · intro i' hi'
    by_cases e : i' = i
    · subst e
      rw [hf1]
      simp
    · rw [hf2 _ (by intro e2; injection e2 with _ e2; exact e e2)]
      simp only [e, if_false]
      exact h.count i' hi'
/-- An empty dictionary, new. -/
theorem dict_new (B : Nat) (w : World) (hB : B ≤ w.heap.size) : DictAt B (((w.alloc (.map #[] 0)).alloc (.map #[] 0)).alloc (.cells #[.map (some w.heap.size), .map (some (w.heap.size + 1)), .int .i64 0] 125)) (w.heap.size + 2) DD.none w.heap.size (w.heap.size + 1) 0 0 (fun _ => none) (fun _ => none) := by
  have h1 := MapAt.made Tryd.prog 33 w
  have h2 := MapAt.made Tryd.prog 31 (w.alloc (.map #[] 0))
  rw [World.size_alloc] at h2
  have hb1 : Below (w.alloc (.map #[] 0)).heap.size (w.alloc (.map #[] 0)) ((w.alloc (.map #[] 0)).alloc (.map #[] 0)) := below_alloc (Below.refl _ _) _
  have hb2 : Below ((w.alloc (.map #[] 0)).alloc (.map #[] 0)).heap.size ((w.alloc (.map #[] 0)).alloc (.map #[] 0)) (((w.alloc (.map #[] 0)).alloc (.map #[] 0)).alloc (.cells #[.map (some w.heap.size), .map (some (w.heap.size + 1)), .int .i64 0] 125)) := below_alloc (Below.refl _ _) _
  have h3 := blk_new ((w.alloc (.map #[] 0)).alloc (.map #[] 0)) (.cells #[.map (some w.heap.size), .map (some (w.heap.size + 1)), .int .i64 0] 125)
  rw [World.size_alloc, World.size_alloc] at h3
  exact ⟨h3, ⟨by omega, by omega, by omega, by omega⟩, (h1.below hb1).below hb2, h2.below hb2, fun _ _ _ _ _ => rfl, (fun _ _ _ _ _ h => by cases h), fun _ _ => rfl⟩
theorem newS_le (l : List En) (k : Nat) (i : Int) : ((l.take k).foldl DD.add DD.none).S i ≤ k ∧ 0 ≤ ((l.take k).foldl DD.add DD.none).S i := by
  induction k with
  | zero => simp [DD.none]
  | succ k ih =>
    rw [List.take_add_one, List.foldl_append]
    cases l[k]? with
    | none => simp only [Option.toList_none, List.foldl_nil]; omega
    | some e =>
      simp only [Option.toList_some, List.foldl_cons, List.foldl_nil, DD.add]
      split <;> omega
theorem bnd_len {t : Int} {a : List Int} : bndE t a ↔ (a = [] ∨ chkC t a [] [] = 0) := Iff.rfl
/-- dict.may. -/
theorem dmay_any (x : En) (hx : x.Wf) (v : Value) (w : World) (h : EnV w v x) (ht : Tbl w) :
    Calls Tryd.prog 70 #[v] w fun e w' => e = .returned (.bool (decide (mayC chkC x))) ∧ Below w.heap.size w w' := by
  by_cases hk : knd x.ty = 0
  · rw [decide_eq_false (fun e => e.1 hk)]
    exact dmay_1 x hx v w h ht hk
  by_cases hr : 15 < x.rt
  · rw [decide_eq_false (fun e => by have := e.2.1; omega)]
    exact dmay_2 x hx v w h ht hk hr
  by_cases hg : 16 < x.grp
  · rw [decide_eq_false (fun e => by have := e.2.2.1; omega)]
    exact dmay_3 x hx v w h ht hk hr hg
  by_cases hn : 100 < x.name.size
  · rw [decide_eq_false (fun e => by have := e.2.2.2.1; omega)]
    exact dmay_4 x hx v w h ht hk hr hg hn
  by_cases hl : bndE x.ty x.lo
  · by_cases hh : bndE x.ty x.hi
    · have e : decide (mayC chkC x) = (chkC x.ty (firstC x) x.lo x.hi == 0) := by
        by_cases h0 : chkC x.ty (firstC x) x.lo x.hi = 0
        · rw [decide_eq_true (show mayC chkC x from ⟨hk, by omega, by omega, by omega, hl, hh, h0⟩), h0]
          rfl
        · rw [decide_eq_false (fun e => h0 e.2.2.2.2.2.2)]
          simpa using h0
      rw [e]
      exact dmay_7 x hx v w h ht hk hr hg hn hl hh
    · rw [decide_eq_false (fun e => hh e.2.2.2.2.2.1)]
      exact dmay_6 x hx v w h ht hk hr hg hn hl hh
  · rw [decide_eq_false (fun e => hl e.2.2.2.2.1)]
    exact dmay_5 x hx v w h ht hk hr hg hn hl
theorem EnV.fr {M : Nat → Prop} {w w' : World} {v : Value} {x : En} (h : EnV w v x) (hf : Fr M w w') (hM : NoByte w M) : EnV w' v x := by
  obtain ⟨v1, v2, v3, hv, h1, h2, h3⟩ := h
  exact ⟨v1, v2, v3, hv, h1.fr hf hM, h2.fr hf hM, h3.fr hf hM⟩
end Go.Proofs.YtokebpeplopjhaaDoor.Mp
namespace Go.Proofs.YtokebpeplopjhaaDoor.Mp
open Go.RowKit Go.Shelf Go.Proofs.YtokebpeplopjhaaDoor.Rng Go.Proofs.YtokebpeplopjhaaDoorW.PrintWords Go.Proofs.YtokebpeplopjhaaDoorW.PrintMore Go.Proofs.YtokebpeplopjhaaDoorW.PrintLast

/-- A row's entry, cell by cell. -/
theorem en_at {w : World} {A : Option Addr} {l : List En} (h : EsAt w A l) {k : Nat} {x : En} (hk : l[k]? = some x) :
    ∃ ad A1 a1 A2 a2 A3 a3, A = some ad ∧ ArgV w (.slice A1 x.df.length a1) x.df ∧ ArgV w (.slice A2 x.lo.length a2) x.lo ∧ ArgV w (.slice A3 x.hi.length a3) x.hi ∧
      w.cell? (ad.add (k * 10)) = some (.int .u16 x.ix) ∧ w.cell? ⟨(ad.add (k * 10)).block, (ad.add (k * 10)).off + 1, none⟩ = some (.int .u8 x.sub) ∧ w.cell? ⟨(ad.add (k * 10)).block, (ad.add (k * 10)).off + 2, none⟩ = some (.string x.name) ∧
      w.cell? ⟨(ad.add (k * 10)).block, (ad.add (k * 10)).off + 3, none⟩ = some (.int .u8 x.ty) ∧ w.cell? ⟨(ad.add (k * 10)).block, (ad.add (k * 10)).off + 4, none⟩ = some (.int .u8 x.rt) ∧ w.cell? ⟨(ad.add (k * 10)).block, (ad.add (k * 10)).off + 5, none⟩ = some (.slice A1 x.df.length a1) ∧
      w.cell? ⟨(ad.add (k * 10)).block, (ad.add (k * 10)).off + 6, none⟩ = some (.slice A2 x.lo.length a2) ∧ w.cell? ⟨(ad.add (k * 10)).block, (ad.add (k * 10)).off + 7, none⟩ = some (.slice A3 x.hi.length a3) ∧ w.cell? ⟨(ad.add (k * 10)).block, (ad.add (k * 10)).off + 8, none⟩ = some (.int .u8 x.tag) ∧
      w.cell? ⟨(ad.add (k * 10)).block, (ad.add (k * 10)).off + 9, none⟩ = some (.int .u8 x.grp) := by
  obtain ⟨ad, v1, v2, v3, hA, hc, h1, h2, h3⟩ := h k x hk
  obtain ⟨A1, a1, rfl, q1⟩ := h1
  obtain ⟨A2, a2, rfl, q2⟩ := h2
  obtain ⟨A3, a3, rfl, q3⟩ := h3
  have f : ∀ (i : Nat) u, 0 < i → (x.cells (.slice A1 x.df.length a1) (.slice A2 x.lo.length a2) (.slice A3 x.hi.length a3))[i]? = some u → w.cell? ⟨(ad.add (k * 10)).block, (ad.add (k * 10)).off + i, none⟩ = some u := fun i u hi hu => by
    rw [← add_field _ _ i hi]
    exact hc i u hu
  exact ⟨ad, A1, a1, A2, a2, A3, a3, hA, ⟨_, _, rfl, q1⟩, ⟨_, _, rfl, q2⟩, ⟨_, _, rfl, q3⟩, hc 0 _ rfl, f 1 _ (by omega) rfl, f 2 _ (by omega) rfl, f 3 _ (by omega) rfl, f 4 _ (by omega) rfl, f 5 _ (by omega) rfl, f 6 _ (by omega) rfl, f 7 _ (by omega) rfl, f 8 _ (by omega) rfl, f 9 _ (by omega) rfl⟩
theorem tbl_fr {w w' : World} {B : Nat} (h : TblB B w) (hf : Fr (fun k => k = B) w w') : Tbl w' := by
  obtain ⟨bm, h1, h2, h3, h4⟩ := h
  exact TblB.tbl ⟨bm, h1, h2, hf.cell h3 (Nat.ne_of_lt h2), h4.block (hf.block bm h4.lt (Nat.ne_of_lt h1))⟩
theorem item_of {w : World} {x : En} {A1 A2 A3 A4 : Option Addr} {a1 a2 a3 a4 : Nat} {b : List Int} (h : EnV w (.agg #[.int .u16 x.ix, .int .u8 x.sub, .string x.name, .int .u8 x.ty, .int .u8 x.rt, .slice A1 x.df.length a1, .slice A2 x.lo.length a2, .slice A3 x.hi.length a3, .int .u8 x.tag, .int .u8 x.grp]) x) (hb : ArgV w (.slice A4 b.length a4) b) :
    ItV w (.agg #[.int .u16 x.ix, .int .u8 x.sub, .string x.name, .int .u8 x.ty, .int .u8 x.rt, .slice A1 x.df.length a1, .slice A2 x.lo.length a2, .slice A3 x.hi.length a3, .int .u8 x.tag, .int .u8 x.grp, .slice A4 b.length a4]) ⟨x, b⟩ := by
  obtain ⟨v1, v2, v3, e, h1, h2, h3⟩ := h
  simp only [Value.agg.injEq, Array.mk.injEq, List.cons.injEq, true_and, and_true] at e
  obtain ⟨rfl, rfl, rfl⟩ := e
  exact ⟨_, _, _, _, rfl, h1, h2, h3, hb⟩
theorem add_eq (d : DD) (x : En) : d.add x = ⟨fun i' s' => if i' = x.ix ∧ s' = x.sub then some ⟨x, firstC x⟩ else d.D i' s', fun i' => if i' = x.ix then d.S x.ix + 1 else d.S i', d.c⟩ := by
  unfold DD.add
  congr 1
  funext i'
  by_cases h : i' = x.ix
  · subst h
    simp
  · simp [h]
/-- What New tells. -/
def NewSaid (B : Nat) (w : World) (r : Int × Option DD) (e : Ending) (w' : World) : Prop := Below w.heap.size w w' ∧ match r.2 with
  | none => e = .returned (.tuple #[.pointer none, .int .i64 r.1])
  | some d => ∃ g bi bs, e = .returned (.tuple #[.pointer (some ⟨g, 0, none⟩), .int .i64 r.1]) ∧ w.heap.size ≤ g ∧ w.heap.size ≤ bi ∧ w.heap.size ≤ bs ∧ DictB B w' g bi bs d
def newR (l : List En) : Int × Option DD := if 1024 < l.length then (3, none) else ((newC l DD.none).1, if (newC l DD.none).1 = 0 then some (newC l DD.none).2 else none)
set_option maxRecDepth 100000 in
set_option maxHeartbeats 4000000 in
theorem new_any (B : Nat) (l : List En) (A : Option Addr) (c : Nat) (w : World) (h : EsAt w A l) (hwf : ∀ e ∈ l, e.Wf) (ht : Tbl w) (hB : B ≤ w.heap.size) (hl : l.length ≤ 1024) (r : Int × Option DD) (hr : newR l = r) :
    Calls Tryd.prog 19 #[.slice A l.length c] w (NewSaid B w r) := by
  have HE := Aside0.mk h
  have HWF := Aside0.mk hwf
  have HT := Aside0.mk ht
  have HR := Aside0.mk hr
  have HBB := Aside0.mk hB
  obtain ⟨n, hn⟩ : ∃ n, l.length = n := ⟨_, rfl⟩
  have HN := Aside0.mk hn
  rw [hn] at hl ⊢
  clear h hwf ht hr hB hn
  have hmm := @run_makeMap Tryd.prog
  go_enter Tryd.func19, Tryd.ntmps19
  go_wp2
  go_loopw [19] (fun i wr => ∃ (k : Nat) (d : DD), k ≤ n ∧ i = .int .i64 k ∧ Aside0 (newC l DD.none = newC (l.drop k) d ∧ d = (l.take k).foldl DD.add DD.none) ∧ Aside0 (DictB B wr (w.heap.size + 1 + 1) w.heap.size (w.heap.size + 1) d) ∧ Aside0 (Below w.heap.size w wr)) (fun i _ => n - (intOf i).toNat)
  case atStart =>
    clear hmm
    refine ⟨0, DD.none, Nat.zero_le _, rfl, ⟨rfl, rfl⟩, ⟨⟨_, _, _, _, dict_new B w HBB.out⟩⟩, ⟨?_⟩⟩
    exact (((below_alloc (Below.refl _ _) _).alloc (by simp) _).alloc (by simp; omega) _)
  case round =>
    clear hmm
    obtain ⟨k, d, hk, rfl, HP, HD, HB⟩ := hrel
    by_cases hlt : k < n
    · obtain ⟨x, hx⟩ : ∃ x, l[k]? = some x := ⟨_, List.getElem?_eq_getElem (by rw [HN.out]; exact hlt)⟩
      have hxw := HWF.out x (List.mem_of_getElem? hx)
      obtain ⟨ad, A1, a1, A2, a2, A3, a3, rfl, g1, g2, g3, y0, y1, y2, y3, y4, y5, y6, y7, y8, y9⟩ := en_at (HE.out.below HB.out) hx
      have HG := Aside0.mk (And.intro g1 (And.intro g2 g3))
      have HX := Aside0.mk hx
      clear g1 g2 g3 hx
      have HA2 := Aside0.mk (show Below wr.heap.size wr ((wr.alloc (.cells #[.int .u16 x.ix, .int .u8 x.sub, .string x.name, .int .u8 x.ty, .int .u8 x.rt, .slice A1 x.df.length a1, .slice A2 x.lo.length a2, .slice A3 x.hi.length a3, .int .u8 x.tag, .int .u8 x.grp] 121)).alloc (.cells #[.int .u16 x.ix, .int .u8 x.sub] 33)) from (below_alloc (Below.refl _ _) _).alloc (by simp) _)
      have hdrop : l.drop k = x :: l.drop (k + 1) := by
        have hkl : k < l.length := by rw [HN.out]; exact hlt
        rw [List.drop_eq_getElem_cons hkl]
        have := HX.out
        rw [List.getElem?_eq_getElem hkl] at this
        injection this with this
        rw [this]
      have HDR := Aside0.mk hdrop
      clear hdrop
      by_cases hm : mayC chkC x
      · have HM := Aside0.mk (decide_eq_true hm)
        go_wp2_with (go_at_call 70; refine (dmay_any x hxw _ _ (EnV.below (w := wr) ⟨_, _, _, rfl, HG.out.1, HG.out.2.1, HG.out.2.2⟩ HA2.out) ((HT.out.below HB.out).below HA2.out)).mono ?_; rw [HM.out]; rintro e w1 ⟨rfl, hb⟩; have HW1 := Aside0.mk (below_step HA2.out hb); have HROW := Aside0.mk (blk_below (blk_alloc (blk_new wr _) _) hb); have HPL := Aside0.mk (blk_below (show _ = some _ from (World.size_alloc wr (.cells #[.int .u16 x.ix, .int .u8 x.sub, .string x.name, .int .u8 x.ty, .int .u8 x.rt, .slice A1 x.df.length a1, .slice A2 x.lo.length a2, .slice A3 x.hi.length a3, .int .u8 x.tag, .int .u8 x.grp] 121)) ▸ blk_new (wr.alloc (.cells #[.int .u16 x.ix, .int .u8 x.sub, .string x.name, .int .u8 x.ty, .int .u8 x.rt, .slice A1 x.df.length a1, .slice A2 x.lo.length a2, .slice A3 x.hi.length a3, .int .u8 x.tag, .int .u8 x.grp] 121)) (.cells #[.int .u16 x.ix, .int .u8 x.sub] 33)) hb); clear hb)
        clear y0 y1 y2 y3 y4 y5 y6 y7 y8 y9
        have HD1 := Aside0.mk (HD.out.below HW1.out)
        obtain ⟨n1, m1, fi, fs, hda⟩ := HD1.out
        have HDA := Aside0.mk hda
        have cg0 : ∀ X, Below w1.heap.size w1 X → X.cell? ⟨w.heap.size + 1 + 1, 0, none⟩ = some (.map (some w.heap.size)) := fun X hX => pw_cell_below hX (blk_cell hda.blk 0)
        have cp0 : ∀ X, Below w1.heap.size w1 X → X.cell? ⟨wr.heap.size + 1, 0, none⟩ = some (.int .u16 x.ix) := fun X hX => pw_cell_below hX (blk_cell HPL.out 0)
        have cp1 : ∀ X, Below w1.heap.size w1 X → X.cell? ⟨wr.heap.size + 1, 1, none⟩ = some (.int .u8 x.sub) := fun X hX => pw_cell_below hX (blk_cell HPL.out 1)
        have hS0 : Below w1.heap.size w1 w1 := Below.refl _ _
        cases hdx : d.D x.ix x.sub with
        | some y =>
          have hrr : r = (6, none) := by
            rw [← HR.out]
            unfold newR
            rw [if_neg (by have := HN.out; omega), HP.out.1, HDR.out]
            simp [newC, hm, hdx]
          subst hrr
          obtain ⟨v, hv, hl⟩ := hda.look hxw.ix hxw.sub
          rw [hdx] at hv hl
          simp only [Option.getD_some, Option.isSome_some] at hv hl
          obtain ⟨v1, v2, v3, v4, rfl, ⟨C1, e1, rfl, -⟩, ⟨C2, e2, rfl, -⟩, ⟨C3, e3, rfl, -⟩, ⟨C4, e4, rfl, -⟩⟩ := hv
          have hl10 : ∀ X, Below w1.heap.size w1 X → (Instr.lookup 122 (.map (some w.heap.size)) (pl x.ix x.sub) true).run Tryd.prog X = .ok (.tuple #[.agg #[.int .u16 y.ix, .int .u8 y.sub, .string y.name, .int .u8 y.ty, .int .u8 y.rt, .slice C1 y.df.length e1, .slice C2 y.lo.length e2, .slice C3 y.hi.length e3, .int .u8 y.tag, .int .u8 y.grp, .slice C4 y.val.length e4], .bool true]) X := fun X hX => hl true X hX
          clear hda hl
          go_region_held3 (fun X => Below w1.heap.size w1 X) (first | assumption | exact below_step (by assumption) (by assumption) | exact below_drew (by assumption) | exact below_made (by assumption) _ | (repeat (first | exact Below.refl _ _ | assumption | refine Below.setCell ?_ (Nat.le_refl _) _ | refine below_made ?_ _ | refine below_drew ?_)))
            (fail)
          all_goals
            go_wp2
            go_ret2
            exact ⟨HB.out.trans ((HW1.out.trans (((below_alloc (Below.refl _ _) _).drew).mono HW1.out.size)).mono HB.out.size), rfl⟩
        | none =>
          have hl10 := hda.lookN hxw.ix hxw.sub hdx
          clear hda
          go_region_held3 (fun X => Below w1.heap.size w1 X) (first | assumption | exact below_step (by assumption) (by assumption) | exact below_drew (by assumption) | exact below_made (by assumption) _ | (repeat (first | exact Below.refl _ _ | assumption | refine Below.setCell ?_ (Nat.le_refl _) _ | refine below_made ?_ _ | refine below_drew ?_)))
            (fail)
          all_goals
            have hb12 : Below w1.heap.size w1 ((w1.alloc (.cells #[.int .u16 0, .int .u8 0, .string { data := #[] }, .int .u8 0, .int .u8 0, .slice none 0 0, .slice none 0 0, .slice none 0 0, .int .u8 0, .int .u8 0, .slice none 0 0] 128)).drew) := (below_alloc (Below.refl _ _) _).drew
            generalize (w1.alloc (.cells #[.int .u16 0, .int .u8 0, .string { data := #[] }, .int .u8 0, .int .u8 0, .slice none 0 0, .slice none 0 0, .slice none 0 0, .int .u8 0, .int .u8 0, .slice none 0 0] 128)).drew = w2 at hb12 ⊢
            have HW2 := Aside0.mk (HW1.out.trans (hb12.mono HW1.out.size))
            have hda2 := HDA.out.below hb12
            have hrow2 := blk_below HROW.out hb12
            have hpl2 := blk_below HPL.out hb12
            have hbi : w.heap.size < w2.heap.size := hda2.items.lt
            have hne1 : wr.heap.size ≠ w.heap.size := fun e => by have := HB.out.size; have := (HD.out.choose_spec.choose_spec.choose_spec.choose_spec).items.lt; omega
            have hne2 : wr.heap.size + 1 ≠ w.heap.size := fun e => by have := HB.out.size; omega
            have hg0 : ∀ X, Fr (fun k => k = w.heap.size) w2 X → X.cell? ⟨w.heap.size + 1 + 1, 0, none⟩ = some (.map (some w.heap.size)) := fun X hX => hX.cell (blk_cell hda2.blk 0) (fun e => absurd (show w.heap.size + 1 + 1 = w.heap.size from e) (by omega))
            have hq0 : ∀ X, Fr (fun k => k = w.heap.size) w2 X → X.cell? ⟨wr.heap.size + 1, 0, none⟩ = some (.int .u16 x.ix) := fun X hX => hX.cell (blk_cell hpl2 0) hne2
            have hq1 : ∀ X, Fr (fun k => k = w.heap.size) w2 X → X.cell? ⟨wr.heap.size + 1, 1, none⟩ = some (.int .u8 x.sub) := fun X hX => hX.cell (blk_cell hpl2 1) hne2
            have K : ∀ X, Fr (fun k => k = w.heap.size) w2 X → X.heap[wr.heap.size]? = _ := fun X hX => (hX.block _ (blk_lt hrow2) hne1).trans hrow2
            have z0 := fun X hX => (held10 (K X hX)).1
            have z1 := fun X hX => (held10 (K X hX)).2.1
            have z2 := fun X hX => (held10 (K X hX)).2.2.1
            have z3 := fun X hX => (held10 (K X hX)).2.2.2.1
            have z4 := fun X hX => (held10 (K X hX)).2.2.2.2.1
            have z5 := fun X hX => (held10 (K X hX)).2.2.2.2.2.1
            have z6 := fun X hX => (held10 (K X hX)).2.2.2.2.2.2.1
            have z7 := fun X hX => (held10 (K X hX)).2.2.2.2.2.2.2.1
            have z8 := fun X hX => (held10 (K X hX)).2.2.2.2.2.2.2.2.1
            have z9 := fun X hX => (held10 (K X hX)).2.2.2.2.2.2.2.2.2.1
            have HEV := Aside0.mk fun X (hX : Fr (fun k => k = w.heap.size) w2 X) => EnV.fr (show EnV w2 (.agg #[.int .u16 x.ix, .int .u8 x.sub, .string x.name, .int .u8 x.ty, .int .u8 x.rt, .slice A1 x.df.length a1, .slice A2 x.lo.length a2, .slice A3 x.hi.length a3, .int .u8 x.tag, .int .u8 x.grp]) x from EnV.below (w := wr) ⟨_, _, _, rfl, HG.out.1, HG.out.2.1, HG.out.2.2⟩ HW2.out) hX (fun p y hp => hda2.noByte p y (.inr hp))
            have HTB := Aside0.mk fun X (hX : Fr (fun k => k = w.heap.size) w2 X) => tbl_fr (TblB.below HT.out (HB.out.trans (HW2.out.mono HB.out.size))) hX
            have HDA2 := Aside0.mk hda2
            have HROW2 := Aside0.mk hrow2
            have HB12 := Aside0.mk hb12
            have hS0' : Fr (fun k => k = w.heap.size) w2 w2.drew := Fr.drew _ _
            clear hda2 hrow2 hpl2 K cg0 cp0 cp1 hS0 hl10 hb12
            go_wp2
            go_region_held3 (fun X => Fr (fun k => k = w.heap.size) w2 X) (assumption)
              (first
                | (go_at_call 71; refine (lend_any x _ _ (HEV.out _ (by assumption))).mono ?_; rintro e w4 ⟨v4, rfl, hv4, hb4, -⟩; have HV4 := Aside0.mk hv4; obtain ⟨_, _, _, rfl, ⟨B1, b1, rfl, -⟩, ⟨B2, b2, rfl, -⟩, ⟨B3, b3, rfl, -⟩⟩ := hv4; have hS4 : Fr (fun k => k = w.heap.size) w2 w4 := hS0'.trans (Fr.of_below hb4); have HB4 := Aside0.mk hb4; clear hb4)
                | (go_at_call 72; refine (first_any x hxw _ _ (HEV.out _ hS4) (HTB.out _ hS4)).mono ?_; rintro e w5 ⟨v5, rfl, hv5, hb5⟩; have HV5 := Aside0.mk hv5; obtain ⟨B4, b4, rfl, -⟩ := hv5; have hS5 : Fr (fun k => k = w.heap.size) w2 w5 := hS4.trans (Fr.of_below hb5); obtain ⟨o, hrun, f', hd6, hF6⟩ := (((HDA2.out.below (Below.refl _ _).drew).below HB4.out).below hb5).store hxw.ix hxw.sub (.agg #[.int .u16 x.ix, .int .u8 x.sub, .string x.name, .int .u8 x.ty, .int .u8 x.rt, .slice B1 x.df.length b1, .slice B2 x.lo.length b2, .slice B3 x.hi.length b3, .int .u8 x.tag, .int .u8 x.grp, .slice B4 (firstC x).length b4]) ⟨x, firstC x⟩ (item_of (HV4.out.below hb5) HV5.out); have hS6 := hS5.trans hF6; have HD6 := Aside0.mk hd6; have HS6 := Aside0.mk hS6; generalize ChangeMaps.setBlock w5 _ o = w6 at hrun HD6 HS6 hS6; clear hb5 hd6 hF6))
            have hS6' := HS6.out
            have hrow6 : w6.heap[wr.heap.size]? = _ := (hS6'.block _ (blk_lt HROW2.out) hne1).trans HROW2.out
            have hi6 := blk_cell hrow6 0
            have hda6 := HD6.out
            have hda6d := hda6.below (Below.refl w6.heap.size w6).drew
            have hcnt : (Instr.lookup 123 (.map (some (w.heap.size + 1))) (.int .u16 x.ix) false).run Tryd.prog w6.drew = .ok (.int .i64 (d.S x.ix)) w6.drew := hda6.lookS hxw.ix w6.drew (Below.refl _ _).drew
            have hSb := newS_le l k x.ix
            rw [← HP.out.2] at hSb
            have hk4 : d.S x.ix + 1 ≤ 2000 ∧ 0 ≤ d.S x.ix := by omega
            have hsum : IntKind.i64.wrap (d.S x.ix + 1) = d.S x.ix + 1 := by
              rw [i64_w]
              unfold wrap64
              omega
            obtain ⟨o2, hrun2, f2, hd7, hF7⟩ := hda6d.storeS hxw.ix (d.S x.ix + 1)
            generalize ChangeMaps.setBlock w6.drew (w.heap.size + 1) o2 = w7 at hrun2 hd7 hF7
            have hne3 : wr.heap.size ≠ w.heap.size + 1 := fun e => by have := hda6.base; have := (HD.out.choose_spec.choose_spec.choose_spec.choose_spec).subs.lt; omega
            have hg1 : ∀ X, Fr (fun k => k = w.heap.size + 1) w6 X → X.cell? ⟨w.heap.size + 1 + 1, 1, none⟩ = some (.map (some (w.heap.size + 1))) := fun X hX => hX.cell (blk_cell hda6.blk 1) (fun e => absurd (show w.heap.size + 1 + 1 = w.heap.size + 1 from e) (by omega))
            have hi0 : ∀ X, Fr (fun k => k = w.heap.size + 1) w6 X → X.cell? ⟨wr.heap.size, 0, none⟩ = some (.int .u16 x.ix) := fun X hX => hX.cell hi6 hne3
            have hS7 : Fr (fun k => k = w.heap.size + 1) w6 w7 := (Fr.drew _ _).trans hF7
            have hS70 : Fr (fun k => k = w.heap.size + 1) w6 w6.drew := Fr.drew _ _
            have HD7 := Aside0.mk hd7
            have HB7 := Aside0.mk (show Below w.heap.size w w7 from (HB.out.trans (HW2.out.mono HB.out.size)).trans ((hS6'.below (B := w.heap.size) (fun j hj => ⟨Nat.lt_trans hj hbi, fun e => absurd (show j = w.heap.size from e) (by omega)⟩)).trans (hS7.below (B := w.heap.size) (fun j hj => ⟨by have := hS6'.size; omega, fun e => absurd (show j = w.heap.size + 1 from e) (by omega)⟩))))
            clear hrow6 hi6 hda6 hda6d hSb hk4 hd7 hF7 hg0 hq0 hq1 z0 z1 z2 z3 z4 z5 z6 z7 z8 z9 hrun hS6 hS6' hS5 hS4 hS0'
            go_wp2
            go_region_held3 (fun X => Fr (fun k => k = w.heap.size + 1) w6 X) (assumption)
              (fail)
            go_wp2
            go_roundw
            case rel =>
              refine ⟨k + 1, d.add x, by omega, by go_num, ⟨?_, ?_⟩, ⟨⟨_, _, _, _, add_eq d x ▸ HD7.out⟩⟩, HB7⟩
              · rw [HP.out.1, HDR.out]
                simp [newC, hm, hdx]
              · rw [List.take_add_one, HX.out, List.foldl_append, ← HP.out.2]
                rfl
            case measure => simp [intOf]; omega
      · have HM := Aside0.mk (decide_eq_false hm)
        have hrr : r = (80, none) := by
          rw [← HR.out]
          unfold newR
          rw [if_neg (by have := HN.out; omega), HP.out.1, HDR.out]
          simp [newC, hm]
        subst hrr
        go_wp2_with (go_at_call 70; refine (dmay_any x hxw _ _ (EnV.below (w := wr) ⟨_, _, _, rfl, HG.out.1, HG.out.2.1, HG.out.2.2⟩ HA2.out) ((HT.out.below HB.out).below HA2.out)).mono ?_; rw [HM.out]; rintro e w1 ⟨rfl, hb⟩; have HW1 := Aside0.mk (below_step HA2.out hb); clear hb)
        go_ret2
        exact ⟨HB.out.trans (HW1.out.mono HB.out.size), rfl⟩
    · obtain rfl : k = n := by omega
      have hrr : r = (0, some d) := by
        rw [← HR.out]
        unfold newR
        rw [if_neg (by have := HN.out; omega), HP.out.1, List.drop_of_length_le (by have := HN.out; omega)]
        rfl
      subst hrr
      go_wp2
      go_ret2
      exact ⟨HB.out, w.heap.size + 1 + 1, w.heap.size, w.heap.size + 1, rfl, by omega, by omega, by omega, HD.out⟩
end Go.Proofs.YtokebpeplopjhaaDoor.Mp
namespace Go.Proofs.YtokebpeplopjhaaDoor.Mp
open Go.RowKit Go.Shelf Go.Proofs.YtokebpeplopjhaaDoor.Rng Go.Proofs.YtokebpeplopjhaaDoorW.PrintWords Go.Proofs.YtokebpeplopjhaaDoorW.PrintMore Go.Proofs.YtokebpeplopjhaaDoorW.PrintLast

theorem wrap_ok {x : Int} (h : -9223372036854775808 ≤ x ∧ x ≤ 9223372036854775807) : IntKind.i64.wrap x = x := by
  rw [i64_w]
  unfold wrap64
  omega
def enSz (e : En) : Int := 1 + e.name.size + e.df.length + e.lo.length + e.hi.length
def szL : List En → Int → Int
  | [], n => n
  | e :: r, n => if n ≤ 5000 then szL r (n + enSz e) else n
theorem szL_up : ∀ (l : List En) (n : Int), n ≤ szL l n
  | [], n => Int.le_refl n
  | e :: r, n => by
    unfold szL
    split
    · have := szL_up r (n + enSz e)
      unfold enSz at this ⊢
      omega
    · exact Int.le_refl n
theorem szL_small : ∀ (l : List En) (n : Int), 0 ≤ n → szL l n ≤ 5000 → n + l.length ≤ 5000 ∧ ∀ e ∈ l, enSz e ≤ 5000
  | [], n, _, h => ⟨by simpa [szL] using h, by simp⟩
  | e :: r, n, h0, h => by
    unfold szL at h
    have he : 1 ≤ enSz e := by unfold enSz; omega
    by_cases hn : n ≤ 5000
    · rw [if_pos hn] at h
      obtain ⟨h1, h2⟩ := szL_small r (n + enSz e) (by omega) h
      have hu := szL_up r (n + enSz e)
      refine ⟨by simp; omega, fun x hx => ?_⟩
      rcases List.mem_cons.1 hx with rfl | hx
      · omega
      · exact h2 x hx
    · rw [if_neg hn] at h
      omega
set_option maxRecDepth 100000 in
set_option maxHeartbeats 4000000 in
theorem size_es (l : List En) (A : Option Addr) (c : Nat) (w : World) (h : EsAt w A l) (hl : l.length ≤ 140737488355328) (hnm : ∀ e ∈ l, e.name.size ≤ 140737488355328) :
    Calls Tryd.prog 17 #[.slice A l.length c] w fun e w' => e = .returned (.int .i64 (szL l 0)) ∧ Below w.heap.size w w' := by
  have HE := Aside0.mk h
  have HNM := Aside0.mk hnm
  obtain ⟨n, hn⟩ : ∃ n, l.length = n := ⟨_, rfl⟩
  have HN := Aside0.mk hn
  rw [hn] at hl ⊢
  obtain ⟨r, hr⟩ : ∃ r, szL l 0 = r := ⟨_, rfl⟩
  rw [hr]
  have HR := Aside0.mk hr
  clear h hnm hn hr
  go_enter Tryd.func17, Tryd.ntmps17
  go_wp2
  go_loopw [3, 4] (fun sv iv wr => ∃ (k : Nat) (s : Int), k ≤ n ∧ iv = .int .i64 k ∧ sv = .int .i64 s ∧ (0 ≤ s ∧ s ≤ 1000000000000000) ∧ Aside0 (szL l 0 = szL (l.drop k) s) ∧ Aside0 (Below w.heap.size w wr)) (fun _ iv _ => n - (intOf iv).toNat)
  case atStart => exact ⟨0, 0, Nat.zero_le _, rfl, rfl, by omega, ⟨rfl⟩, ⟨Below.refl _ _⟩⟩
  case round =>
    obtain ⟨k, s, hk, rfl, rfl, hs, HS, HB⟩ := hrel
    by_cases hlt : k < n
    · obtain ⟨x, hx⟩ : ∃ x, l[k]? = some x := ⟨_, List.getElem?_eq_getElem (by rw [HN.out]; exact hlt)⟩
      have hdrop : l.drop k = x :: l.drop (k + 1) := by
        have hkl : k < l.length := by rw [HN.out]; exact hlt
        rw [List.drop_eq_getElem_cons hkl]
        rw [List.getElem?_eq_getElem hkl] at hx
        injection hx with hx
        rw [hx]
      by_cases h5 : s ≤ 5000
      · obtain ⟨ad, A1, a1, A2, a2, A3, a3, rfl, ⟨_, _, -, -, g1⟩, ⟨_, _, -, -, g2⟩, ⟨_, _, -, -, g3⟩, y0, y1, y2, y3, y4, y5, y6, y7, y8, y9⟩ := en_at (HE.out.below HB.out) hx
        have hnx := HNM.out x (List.mem_of_getElem? hx)
        have hs2 := HS.out
        rw [hdrop, show szL (x :: l.drop (k + 1)) s = if s ≤ 5000 then szL (l.drop (k + 1)) (s + enSz x) else s from rfl, if_pos h5] at hs2
        have HS2 := Aside0.mk hs2
        have hS0 : (Below wr.heap.size wr wr) := Below.refl _ _
        have hy2 : ∀ X, Below wr.heap.size wr X → X.cell? ⟨(ad.add (k * 10)).block, (ad.add (k * 10)).off + 2, none⟩ = some (.string x.name) := fun X hX => pw_cell_below hX y2
        have hy5 : ∀ X, Below wr.heap.size wr X → X.cell? ⟨(ad.add (k * 10)).block, (ad.add (k * 10)).off + 5, none⟩ = some (.slice A1 x.df.length a1) := fun X hX => pw_cell_below hX y5
        have hy6 : ∀ X, Below wr.heap.size wr X → X.cell? ⟨(ad.add (k * 10)).block, (ad.add (k * 10)).off + 6, none⟩ = some (.slice A2 x.lo.length a2) := fun X hX => pw_cell_below hX y6
        have hy7 : ∀ X, Below wr.heap.size wr X → X.cell? ⟨(ad.add (k * 10)).block, (ad.add (k * 10)).off + 7, none⟩ = some (.slice A3 x.hi.length a3) := fun X hX => pw_cell_below hX y7
        clear hx hdrop hs2 y0 y1 y2 y3 y4 y5 y6 y7 y8 y9
        go_wp2
        go_region_held3 (fun X => Below wr.heap.size wr X) (first | assumption | exact below_step (by assumption) (by assumption) | exact below_drew (by assumption))
          (fail)
        go_wp2
        go_roundw
        case rel =>
          refine ⟨k + 1, s + enSz x, by omega, by go_num, ?_, by unfold enSz; omega, HS2, ⟨HB.out.drew⟩⟩
          unfold enSz
          congr 1
          rw [wrap_ok (x := s + 1) (by omega), wrap_ok (x := s + 1 + (x.name.size : Int)) (by omega), wrap_ok (x := s + 1 + (x.name.size : Int) + (x.df.length : Int)) (by omega), wrap_ok (x := s + 1 + (x.name.size : Int) + (x.df.length : Int) + (x.lo.length : Int)) (by omega), wrap_ok (by omega)]
          omega
        case measure => simp [intOf]; omega
      · have hs2 := HS.out
        rw [hdrop, show szL (x :: l.drop (k + 1)) s = if s ≤ 5000 then szL (l.drop (k + 1)) (s + enSz x) else s from rfl, if_neg h5] at hs2
        obtain rfl : s = r := by rw [← HR.out, hs2]
        clear hx hdrop hs2
        go_wp2
        go_ret
        exact ⟨rfl, HB.out⟩
    · obtain rfl : k = n := by omega
      have hs2 := HS.out
      rw [List.drop_of_length_le (by rw [HN.out]; exact Nat.le_refl _)] at hs2
      obtain rfl : s = r := by rw [← HR.out, hs2]; rfl
      clear hs2
      go_wp2
      go_ret
      exact ⟨rfl, HB.out⟩
end Go.Proofs.YtokebpeplopjhaaDoor.Mp
