/- Next of both (filled by fill.py). -/
import Derived.Test.YtnjmohdfnicpdaaHy
namespace Go.Proofs.Ytnjmohdfnicpdaa.Bus
open Go.RowKit Go.Shelf Go.Lib Go.Sort Go.Proofs.Ytnjmohdfnicpdaa.Frm Go.Proofs.Ytnjmohdfnicpdaa.Rng Go.Proofs.YtnjmohdfnicpdaaW.PrintWords Go.Proofs.YtnjmohdfnicpdaaW.PrintMore Go.Proofs.YtnjmohdfnicpdaaW.PrintLast

/-- A call. -/
structure Stp where
  kd : Int
  x : Sn
  tm : Int
def Stp.cells (s : Stp) : Array Value := #[.int .i64 s.kd, .int .i64 s.x.nd, .int .u16 s.x.id, .int .i64 s.x.len, .int .u8 s.x.x0, .int .u8 s.x.x1, .int .u8 s.x.x2, .int .u8 s.x.x3, .int .u8 s.x.x4, .int .u8 s.x.x5, .int .u8 s.x.x6, .int .u8 s.x.x7, .bool s.x.rem, .int .i64 s.tm]
/-- The call is answered alike. -/
def OneSaid (S : Nat → Prop) (g gm : Nat) (N : Int) (w : World) (e : Ending) (w' : World) : Prop := e = .returned (.bool true) ∧ ∃ S' L' N', PairW w' S' g gm L' N' ∧ PTurn S S' w w' ∧ N' ≤ N + 601
theorem sent_eq (x : Sn) (w : World) : (Op.equalIn 10000 32 (.agg #[.int .u16 x.id, .int .i64 x.len, .int .u8 x.x0, .int .u8 x.x1, .int .u8 x.x2, .int .u8 x.x3, .int .u8 x.x4, .int .u8 x.x5, .int .u8 x.x6, .int .u8 x.x7, .bool x.rem]) (.agg #[.int .u16 x.id, .int .i64 x.len, .int .u8 x.x0, .int .u8 x.x1, .int .u8 x.x2, .int .u8 x.x3, .int .u8 x.x4, .int .u8 x.x5, .int .u8 x.x6, .int .u8 x.x7, .bool x.rem])).run Try.prog w = .ok true w := by
  obtain ⟨q, h1, h2⟩ := fm_dec x.fm x.fm rfl rfl
  have h3 := h2 w
  rw [h1.2 rfl] at h3
  exact h3
set_option maxHeartbeats 4000000 in
set_option maxRecDepth 100000 in
theorem one_next (w : World) (S : Nat → Prop) (g gm : Nat) (L : List Sn) (N : Int) (s : Stp) (h : PairW w S g gm L N) (hk : pickC s.kd 6 = 2 ∨ pickC s.kd 6 = 3) :
    Calls Try.prog 16 #[.pointer (some ⟨g, 0, none⟩), .pointer (some ⟨gm, 0, none⟩), .agg #[.int .i64 s.kd, .int .i64 s.x.nd, .int .u16 s.x.id, .int .i64 s.x.len, .int .u8 s.x.x0, .int .u8 s.x.x1, .int .u8 s.x.x2, .int .u8 s.x.x3, .int .u8 s.x.x4, .int .u8 s.x.x5, .int .u8 s.x.x6, .int .u8 s.x.x7, .bool s.x.rem, .int .i64 s.tm]] w (OneSaid S g gm N w) := by
  obtain ⟨p, hp⟩ : ∃ p, pickC s.kd 6 = p := ⟨_, rfl⟩
  have HP := Aside0.mk (pick_any s.kd 6)
  rw [hp] at HP hk
  have hnw := heap_alloc_new w (.cells #[.int .i64 s.kd, .int .i64 s.x.nd, .int .u16 s.x.id, .int .i64 s.x.len, .int .u8 s.x.x0, .int .u8 s.x.x1, .int .u8 s.x.x2, .int .u8 s.x.x3, .int .u8 s.x.x4, .int .u8 s.x.x5, .int .u8 s.x.x6, .int .u8 s.x.x7, .bool s.x.rem, .int .i64 s.tm] 45)
  have hbw := below_alloc (Below.refl w.heap.size w) (.cells #[.int .i64 s.kd, .int .i64 s.x.nd, .int .u16 s.x.id, .int .i64 s.x.len, .int .u8 s.x.x0, .int .u8 s.x.x1, .int .u8 s.x.x2, .int .u8 s.x.x3, .int .u8 s.x.x4, .int .u8 s.x.x5, .int .u8 s.x.x6, .int .u8 s.x.x7, .bool s.x.rem, .int .i64 s.tm] 45)
  obtain ⟨v, l, A, c, h⟩ := h
  have HX := Aside0.mk (h.below hbw)
  have HW := Aside0.mk hbw
  have HML := Aside0.mk (h.lt gm h.sm)
  have c0 : (w.alloc (.cells #[.int .i64 s.kd, .int .i64 s.x.nd, .int .u16 s.x.id, .int .i64 s.x.len, .int .u8 s.x.x0, .int .u8 s.x.x1, .int .u8 s.x.x2, .int .u8 s.x.x3, .int .u8 s.x.x4, .int .u8 s.x.x5, .int .u8 s.x.x6, .int .u8 s.x.x7, .bool s.x.rem, .int .i64 s.tm] 45)).cell? ⟨w.heap.size, 0, none⟩ = some (.int .i64 s.kd) := blk_cell hnw 0
  clear h hbw hnw hp
  have hse := sent_eq
  go_enter Try.func16, Try.ntmps16
  go_wp2_with (fail)
  refine (HP.out _ (by decide) (by decide)).mono ?_
  rintro e w0 ⟨rfl, hw0⟩
  subst hw0
  clear HP
  have HS0 := Aside0.mk HW.out.size
  generalize w.alloc (.cells #[.int .i64 s.kd, .int .i64 s.x.nd, .int .u16 s.x.id, .int .i64 s.x.len, .int .u8 s.x.x0, .int .u8 s.x.x1, .int .u8 s.x.x2, .int .u8 s.x.x3, .int .u8 s.x.x4, .int .u8 s.x.x5, .int .u8 s.x.x6, .int .u8 s.x.x7, .bool s.x.rem, .int .i64 s.tm] 45) = W0 at HX HW HS0 c0 ⊢
  rcases hk with rfl | rfl
  all_goals
    go_wp2_with (fail)
    refine (bnext_any W0 g v l N HX.out.bus HX.out.hp HX.out.llen).mono ?_
    rintro e w1 ⟨x, b, rfl, v1, l1, hb1, hp1, hn1, ht1⟩
    have hr1 := HX.out.ref.fr ht1.fr (fun hm => (HX.out.mv gm hm).2 rfl) (fun h0 ad e => (HX.out.row h0 ad e).2)
    have hal := below_alloc (Below.refl w1.heap.size w1) (.cells #[.int .i64 x.nd, .int .u16 x.id, .int .i64 x.len, .int .u8 x.x0, .int .u8 x.x1, .int .u8 x.x2, .int .u8 x.x3, .int .u8 x.x4, .int .u8 x.x5, .int .u8 x.x6, .int .u8 x.x7, .bool x.rem, .int .i64 x.num] 35)
    have hx7 := heap_alloc_new w1 (.cells #[.int .i64 x.nd, .int .u16 x.id, .int .i64 x.len, .int .u8 x.x0, .int .u8 x.x1, .int .u8 x.x2, .int .u8 x.x3, .int .u8 x.x4, .int .u8 x.x5, .int .u8 x.x6, .int .u8 x.x7, .bool x.rem, .int .i64 x.num] 35)
    have HB1 := Aside0.mk (hb1.fr (Fr.of_below (M := fun _ => False) hal) (fun h => h) (fun _ _ h => h))
    have HT1 := Aside0.mk (ht1.trans (show Turn g v1 v1 w1 (w1.alloc (.cells #[.int .i64 x.nd, .int .u16 x.id, .int .i64 x.len, .int .u8 x.x0, .int .u8 x.x1, .int .u8 x.x2, .int .u8 x.x3, .int .u8 x.x4, .int .u8 x.x5, .int .u8 x.x6, .int .u8 x.x7, .bool x.rem, .int .i64 x.num] 35)) from ⟨Fr.of_below hal, fun k hk => .inl hk⟩))
    have HR1 := Aside0.mk (hr1.below hal)
    have HX7 := Aside0.mk hx7
    have HPP := Aside0.mk hp1
    have HN1 := Aside0.mk hn1
    have HS1 := Aside0.mk ht1.fr.size
    clear hr1 hal hx7 hb1 ht1 hp1 hn1 c0
    go_wp2_with (fail)
    obtain ⟨t7, ht7⟩ : ∃ t7, w1.heap.size = t7 := ⟨_, rfl⟩
    rw [ht7] at HX7 HS1
    rw [ht7]
    clear ht7
    generalize w1.alloc (.cells #[.int .i64 x.nd, .int .u16 x.id, .int .i64 x.len, .int .u8 x.x0, .int .u8 x.x1, .int .u8 x.x2, .int .u8 x.x3, .int .u8 x.x4, .int .u8 x.x5, .int .u8 x.x6, .int .u8 x.x7, .bool x.rem, .int .i64 x.num] 35) = W1a at HB1 HT1 HR1 HX7 ⊢
    refine (rnext_any W1a gm A c L N HR1.out (by have := HX.out.cap; omega)).mono ?_
    rintro e w2 ⟨y, b2, rfl, A2, c2, L2, hr2, hn2, ht2⟩
    obtain ⟨rfl, rfl, hpq, hl2, h02⟩ : y = x ∧ b2 = b ∧ PairP l1 L2 N ∧ L2.length ≤ 512 ∧ (0 < L2.length → 0 < L.length) := by
      have hlen := HX.out.len
      have hcap := HX.out.cap
      rcases HN1.out with ⟨e1, e2, e3, e4⟩ | ⟨h1, e2, e3, h4⟩
      · rcases hn2 with ⟨f1, f2, f3, f4⟩ | ⟨f1, _⟩
        · exact ⟨f3.trans e3.symm, f4.trans e4.symm, (by have hpp := HX.out.pp; rw [e1, f1] at hpp; rw [e2, f2]; exact hpp), by rw [f2]; decide, fun h => by rw [f2] at h; exact absurd h (Nat.lt_irrefl _)⟩
        · rw [e1, f1] at hlen
          simp at hlen
      · obtain ⟨L', g1, g2⟩ := HX.out.pp.next HX.out.hp h1 e2 h4
        rcases hn2 with ⟨f1, _, _, _⟩ | ⟨f1, f2⟩
        · rw [f1] at g1
          cases g1
        · rw [f1] at g1
          simp only [List.cons.injEq] at g1
          rw [f1] at hcap
          exact ⟨g1.1, f2.trans e3.symm, by rw [g1.2]; exact g2, by rw [List.length_cons] at hcap; omega, fun _ => by rw [f1]; simp⟩
    have hstep := HX.out.step HB1.out HPP.out HT1.out hr2 ht2.fr (fun ad' e h0 => (ht2.own ad' e).imp (fun h => ⟨h02 h0, h⟩) id) hpq hl2
    have hx72 := (ht2.fr.block t7 (Array.getElem?_eq_some_iff.1 HX7.out).1 (fun e => by have h1 := HML.out; have h2 := HS0.out; have h3 := HS1.out; omega)).trans HX7.out
    have hal := below_alloc (Below.refl w2.heap.size w2) (.cells #[.int .i64 y.nd, .int .u16 y.id, .int .i64 y.len, .int .u8 y.x0, .int .u8 y.x1, .int .u8 y.x2, .int .u8 y.x3, .int .u8 y.x4, .int .u8 y.x5, .int .u8 y.x6, .int .u8 y.x7, .bool y.rem, .int .i64 y.num] 72)
    have hx9 := heap_alloc_new w2 (.cells #[.int .i64 y.nd, .int .u16 y.id, .int .i64 y.len, .int .u8 y.x0, .int .u8 y.x1, .int .u8 y.x2, .int .u8 y.x3, .int .u8 y.x4, .int .u8 y.x5, .int .u8 y.x6, .int .u8 y.x7, .bool y.rem, .int .i64 y.num] 72)
    have hx73 := blk_below hx72 hal
    have HFIN := Aside0.mk (show ∃ S', PairW (w2.alloc (.cells #[.int .i64 y.nd, .int .u16 y.id, .int .i64 y.len, .int .u8 y.x0, .int .u8 y.x1, .int .u8 y.x2, .int .u8 y.x3, .int .u8 y.x4, .int .u8 y.x5, .int .u8 y.x6, .int .u8 y.x7, .bool y.rem, .int .i64 y.num] 72)) S' g gm L2 N ∧ PTurn S S' w (w2.alloc (.cells #[.int .i64 y.nd, .int .u16 y.id, .int .i64 y.len, .int .u8 y.x0, .int .u8 y.x1, .int .u8 y.x2, .int .u8 y.x3, .int .u8 y.x4, .int .u8 y.x5, .int .u8 y.x6, .int .u8 y.x7, .bool y.rem, .int .i64 y.num] 72)) from
      ⟨_, ⟨_, _, _, _, hstep.1.below hal⟩, (PTurn.below HW.out).trans (hstep.2.trans (PTurn.below hal))⟩)
    clear hstep hpq hl2 h02 hr2 hn2 ht2 hx72 hal
    obtain ⟨f0, f1, f2, f3, f4, f5, f6, f7, f8, f9, f10, f11, f12, -⟩ := sn_at (s := y) hx73
    obtain ⟨g0, g1, g2, g3, g4, g5, g6, g7, g8, g9, g10, g11, g12, -⟩ := sn_at (s := y) hx9
    clear hx73 hx9
    go_wp2_with (fail)
    go_ret
    obtain ⟨S', h1, h2⟩ := HFIN.out
    exact ⟨rfl, S', L2, N, h1, h2, by omega⟩
end Go.Proofs.Ytnjmohdfnicpdaa.Bus
