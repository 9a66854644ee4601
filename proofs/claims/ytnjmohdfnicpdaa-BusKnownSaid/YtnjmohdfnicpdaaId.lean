/- works of layer 4 (filled by fill.py). -/
import Derived.Test.YtnjmohdfnicpdaaIc
namespace Go.Proofs.Ytnjmohdfnicpdaa.Bus
open Go.RowKit Go.Shelf Go.Lib Go.Sort Go.Proofs.Ytnjmohdfnicpdaa.Frm Go.Proofs.Ytnjmohdfnicpdaa.Rng Go.Proofs.YtnjmohdfnicpdaaW.PrintWords Go.Proofs.YtnjmohdfnicpdaaW.PrintMore Go.Proofs.YtnjmohdfnicpdaaW.PrintLast

def w1S : Sn := ⟨1, 385, 0, 0, 0, 0, 0, 0, 0, 0, 0, false, 0⟩
def w2S : Sn := ⟨2, 128, 0, 0, 0, 0, 0, 0, 0, 0, 0, false, 1⟩
theorem w1_ok : sendC w1S 0 = 0 := by decide
theorem w2_ok : sendC w2S 1 = 0 := by decide
theorem w_ins1 : insL w1S [] = [w1S] := by decide
theorem w_ins2 : insL w2S [w1S] = [w2S, w1S] := by decide
/-- It works. -/
def WorkSaid (w : World) (e : Ending) (w' : World) : Prop := e = .returned (.bool true) ∧ Below w.heap.size w w'
set_option maxHeartbeats 4000000 in
set_option maxRecDepth 100000 in
theorem works_any (w : World) : Calls Try.prog 13 #[] w (WorkSaid w) := by
  go_enter Try.func13, Try.ntmps13
  go_wp2_with (fail)
  refine (bnew_any w).mono ?_
  rintro e w1 ⟨rfl, hb1, hw1⟩
  obtain ⟨g, hg⟩ : ∃ g, w.heap.size = g := ⟨_, rfl⟩
  rw [hg] at hb1 ⊢
  have HG := Aside0.mk hg
  have HW1 := Aside0.mk hw1
  have HS1 := Aside0.mk (show Calls Try.prog 8 #[.pointer (some ⟨g, 0, none⟩), .int .i64 1, .agg #[.int .u16 385, .int .i64 0, .int .u8 0, .int .u8 0, .int .u8 0, .int .u8 0, .int .u8 0, .int .u8 0, .int .u8 0, .int .u8 0, .bool false]] w1 _ from bsend_any w1 g _ [] w1S 0 w1_ok hb1 (fun c _ h => absurd h (Nat.not_lt_zero _)) (by decide) (by decide))
  clear hg hw1 hb1
  go_wp2_with (fail)
  refine HS1.out.mono ?_
  rintro e w2 ⟨rfl, v2, l2, N2, hb2, hp2, hs2, ht2⟩
  obtain ⟨hq2, rfl⟩ : PairP l2 [w1S] 1 ∧ N2 = 1 := by
    rcases hs2 with ⟨_, h2, h3⟩ | ⟨h1, _⟩
    · have h4 := PairP.nil.send (x := w1S) rfl h2
      rw [w_ins1] at h4
      exact ⟨h4, h3⟩
    · exact absurd rfl h1
  have hl2 : l2.length = 1 := hq2.len
  have HT2 := Aside0.mk ht2
  have HQ2 := Aside0.mk hq2
  have HS2 := Aside0.mk (show Calls Try.prog 8 #[.pointer (some ⟨g, 0, none⟩), .int .i64 2, .agg #[.int .u16 128, .int .i64 0, .int .u8 0, .int .u8 0, .int .u8 0, .int .u8 0, .int .u8 0, .int .u8 0, .int .u8 0, .int .u8 0, .bool false]] w2 _ from bsend_any w2 g _ l2 w2S 0 (by rw [hl2]; exact w2_ok) hb2 hp2 (by omega) (by decide))
  clear hb2 hp2 hs2 ht2 hq2 HS1
  go_wp2_with (fail)
  refine HS2.out.mono ?_
  rintro e w3 ⟨rfl, v3, l3, N3, hb3, hp3, hs3, ht3⟩
  obtain ⟨hq3, rfl⟩ : PairP l3 [w2S, w1S] 2 ∧ N3 = 2 := by
    rcases hs3 with ⟨_, h2, h3⟩ | ⟨h1, _⟩
    · have h4 := HQ2.out.send (x := w2S) rfl h2
      rw [w_ins2] at h4
      exact ⟨h4, h3⟩
    · exact absurd rfl h1
  have hl3 : l3.length = 2 := hq3.len
  have HT3 := Aside0.mk (HT2.out.trans ht3)
  have HN3 := Aside0.mk (bnext_any w3 g v3 l3 2 hb3 hp3 (by omega))
  have HQ3 := Aside0.mk hq3
  have HP3 := Aside0.mk hp3
  clear hb3 hp3 hs3 ht3 hq3 HS2 HT2 HQ2 hl2
  go_wp2_with (fail)
  refine HN3.out.mono ?_
  rintro e w4 ⟨x, b, rfl, v4, l4, hb4, hp4, hn4, ht4⟩
  obtain ⟨rfl, rfl, hq4⟩ : x = w2S ∧ b = true ∧ PairP l4 [w1S] 2 := by
    rcases hn4 with ⟨h1, _⟩ | ⟨h1, h2, h3, h4⟩
    · rw [h1] at hl3
      cases hl3
    · obtain ⟨L', g1, g2⟩ := HQ3.out.next HP3.out h1 h2 h4
      simp only [List.cons.injEq] at g1
      exact ⟨g1.1.symm, h3, by rw [g1.2]; exact g2⟩
  have hal := below_alloc (Below.refl w4.heap.size w4) (.cells w2S.cells.toArray 35)
  have hx := heap_alloc_new w4 (.cells w2S.cells.toArray 35)
  have HT4 := Aside0.mk (show Turn g (.slice none 0 0) v4 w1 (w4.alloc (.cells w2S.cells.toArray 35)) from (HT3.out.trans ht4).trans ⟨Fr.of_below hal, fun k hk => .inl hk⟩)
  have HWT := Aside0.mk (waits_any (w4.alloc (.cells w2S.cells.toArray 35)) g v4 l4 2 (hb4.fr (Fr.of_below (M := fun _ => False) hal) (fun h => h) (fun _ _ h => h)) (by have := hq4.len; simp at this; omega))
  have HQ4 := Aside0.mk hq4
  obtain ⟨f0, f1, f2, f3, f4, f5, f6, f7, f8, f9, f10, f11, f12, -⟩ := sn_at (s := w2S) hx
  simp only [w2S, Sn.cells] at f0 f1 f2 f3 f4 f5 f6 f7 f8 f9 f10 f11 f12 HT4 HWT
  simp only [w2S]
  clear hal hx hb4 hp4 hn4 ht4 hq4 HN3 HT3 HQ3 HP3 hl3
  go_wp2_with (fail)
  refine HWT.out.mono ?_
  rintro e w5 ⟨A5, c5, l5, rfl, hp5, -, -, -, hb5⟩
  have hl5 : l5.length = 1 := by rw [hp5.length_eq]; exact HQ4.out.len
  rw [hl5]
  have HFIN := Aside0.mk (show Below w.heap.size w w5 from by
    have h1 := HT4.out.fr.below (B := w.heap.size) (fun k hk => ⟨Nat.lt_of_lt_of_le hk HW1.out.size, fun hm => by
      have := HG.out
      rcases hm with hm | hm
      · omega
      · cases hm⟩)
    have h2 := HW1.out.trans h1
    exact h2.trans (hb5.mono h2.size))
  clear hp5 hb5 hl5 f0 f1 f2 f3 f4 f5 f6 f7 f8 f9 f10 f11 f12
  go_wp2_with (fail)
  go_ret
  exact ⟨rfl, HFIN.out⟩
end Go.Proofs.Ytnjmohdfnicpdaa.Bus
