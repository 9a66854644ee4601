/- Pick; a call of both (filled by fill.py). -/
import Derived.Test.YtnjmohdfnicpdaaHx
namespace Go.Proofs.Ytnjmohdfnicpdaa.Bus
open Go.RowKit Go.Shelf Go.Lib Go.Sort Go.Proofs.Ytnjmohdfnicpdaa.Frm Go.Proofs.Ytnjmohdfnicpdaa.Rng Go.Proofs.YtnjmohdfnicpdaaW.PrintWords Go.Proofs.YtnjmohdfnicpdaaW.PrintMore Go.Proofs.YtnjmohdfnicpdaaW.PrintLast

/-- What Pick tells. -/
def pickC (i n : Int) : Int := (i.tmod n + n).tmod n
theorem pick_bound (i n : Int) (h : 0 < n) : 0 ≤ pickC i n ∧ pickC i n < n := by
  unfold pickC
  have h1 : -n < i.tmod n := by
    have := Int.lt_tmod_of_pos i h
    omega
  have h2 : 0 ≤ i.tmod n + n := by omega
  exact ⟨Int.tmod_nonneg _ h2, Int.tmod_lt_of_pos _ h⟩
set_option maxHeartbeats 1000000 in
set_option maxRecDepth 100000 in
theorem pick_any (i n : Int) (w : World) (h : 0 < n) (hn : n ≤ 1000) :
    Calls Try.prog 9 #[.int .i64 i, .int .i64 n] w fun e w' => e = .returned (.int .i64 (pickC i n)) ∧ w' = w := by
  have h1 : -n < i.tmod n := by
    have := Int.lt_tmod_of_pos i h
    omega
  have h2 : i.tmod n < n := Int.tmod_lt_of_pos _ h
  obtain ⟨p, hp⟩ : ∃ p, pickC i n = p := ⟨_, rfl⟩
  have hb := pick_bound i n h
  rw [hp] at hb ⊢
  unfold pickC at hp
  obtain ⟨q, hq⟩ : ∃ q, i.tmod n = q := ⟨_, rfl⟩
  rw [hq] at hp h1 h2
  have hw1 : IntKind.i64.wrap q = q := by rw [IntKind.wrap_i64]; omega
  have hw2 : IntKind.i64.wrap (q + n) = q + n := by rw [IntKind.wrap_i64]; omega
  have hw3 : IntKind.i64.wrap p = p := by rw [IntKind.wrap_i64]; omega
  have hne : (n == 0) = false := by rw [beq_eq_false_iff_ne]; omega
  have hne2 : ¬ n = 0 := by omega
  go_enter Try.func9, Try.ntmps9
  go_wp2_with (fail)
  go_ret
  exact ⟨rfl, rfl⟩
end Go.Proofs.Ytnjmohdfnicpdaa.Bus
