/- frame.Right. Consumers: Hear, of one object that is written at once. Consumers: the closure of Due. -/
import Derived.Test.YtokebpeplopjhaaDoorY16
import Derived.ChangeKeysEq
import Derived.StillTailTactics
import Derived.Laws.CopyRow
import Derived.Laws.CopyOwn
import Derived.Test.YtokebpeplopjhaaDoorY20
import Derived.Deep.RegionHeld3
namespace Go.Proofs.YtokebpeplopjhaaDoor.Frm
open Go.RowKit Go.Proofs.YtokebpeplopjhaaDoorW.PrintWords Go.Proofs.YtokebpeplopjhaaDoorW.PrintMore Go.Proofs.YtokebpeplopjhaaDoorW.PrintLast

def Rt (f : Fm) : Prop := f.id ≤ 2047 ∧ 0 ≤ f.len ∧ f.len ≤ 8 ∧ ∀ i : Nat, i < 8 → f.d[i]?.getD 0 = 0 ∨ ((i : Int) < f.len ∧ f.rem = false)

theorem part_u8 (W : World) (xs : Array Value) (j : Nat) (a : Int) (h : xs[j]? = some (.int .u8 a)) : (part 5 xs j).run Tryd.prog W = .ok (.int .u8 a) W :=
  run_part_plain W (by kernel_rfl) h
theorem eqItems_ints (W : World) (d : Nat) (xs ys : List Int) (hl : xs.length = ys.length) : ∀ (m s : Nat), s + m = xs.length →
    ∃ r, (Op.eqItems (d + 1) 5 1 (xs.map (Value.int .u8)).toArray (ys.map (Value.int .u8)).toArray (List.range' s m)).run Tryd.prog W = .ok r W ∧ (r = true ↔ xs.drop s = ys.drop s)
  | 0, s, h => by
    refine ⟨true, by simp [Op.eqItems], ?_⟩
    rw [List.drop_eq_nil_of_le (by omega), List.drop_eq_nil_of_le (by omega)]
    simp
  | m + 1, s, h => by
    have h1 : s < xs.length := by omega
    have h2 : s < ys.length := by omega
    obtain ⟨r, hr, hiff⟩ := eqItems_ints W d xs ys hl m (s + 1) (by omega)
    have p1 := part_u8 W (xs.map (Value.int .u8)).toArray s xs[s] (by simp [h1])
    have p2 := part_u8 W (ys.map (Value.int .u8)).toArray s ys[s] (by simp [h2])
    have p3 := run_equalIn_int (P := Tryd.prog) W d 5 .u8 .u8 xs[s] ys[s] Tryd.underlying5
    rw [List.range'_succ]
    by_cases he : xs[s] = ys[s]
    · rw [he] at p1 p3
      refine ⟨r, ?_, ?_⟩
      · simp only [Op.eqItems, Sem.run_bind, Nat.mul_one, p1, p2, p3, Result.andThen_ok, beq_self_eq_true, Bool.not_true, Bool.false_eq_true, if_false]
        exact hr
      · rw [hiff, List.drop_eq_getElem_cons h1, List.drop_eq_getElem_cons h2, he, List.cons.injEq]
        exact ⟨fun h => ⟨rfl, h⟩, fun h => h.2⟩
    · refine ⟨false, ?_, ?_⟩
      · simp only [Op.eqItems, Sem.run_bind, Nat.mul_one, p1, p2, p3, Result.andThen_ok, beq_eq_false_iff_ne.2 he, Bool.not_false, if_true, Sem.run_pure]
      · rw [List.drop_eq_getElem_cons h1, List.drop_eq_getElem_cons h2, List.cons.injEq]
        exact ⟨fun h => (nomatch h), fun h => absurd h.1 he⟩
theorem arr_eq (W : World) (d : Nat) (xs ys : List Int) (hx : xs.length = 8) (hy : ys.length = 8) :
    ∃ r, (Op.equalIn (d + 1 + 1) 102 (.agg (xs.map (Value.int .u8)).toArray) (.agg (ys.map (Value.int .u8)).toArray)).run Tryd.prog W = .ok r W ∧ (r = true ↔ xs = ys) := by
  obtain ⟨r, hr, hiff⟩ := eqItems_ints W d xs ys (by omega) 8 0 (by omega)
  obtain ⟨i, hi⟩ := info_of_underlying (P := Tryd.prog) Tryd.underlying5
  refine ⟨r, ?_, by simpa using hiff⟩
  rw [run_equalIn_array W (d + 1) _ _ Tryd.underlying102 hi, show Tryd.prog.cellsOf 5 = 1 by kernel_rfl, List.range_eq_range']
  exact hr
theorem arr_dec (xs ys : List Int) (hx : xs.length = 8) (hy : ys.length = 8) :
    ∃ q : Bool, (q = true ↔ xs = ys) ∧ ∀ W, (Op.equalIn 10000 102 (.agg (xs.map (Value.int .u8)).toArray) (.agg (ys.map (Value.int .u8)).toArray)).run Tryd.prog W = .ok q W := by
  refine ⟨decide (xs = ys), by simp, fun W => ?_⟩
  obtain ⟨r, hr, hiff⟩ := arr_eq W 9998 xs ys hx hy
  rw [show decide (xs = ys) = r by cases r <;> simp_all]
  exact hr

/-- The first n of eight bytes, zeros behind. -/
def cutZ (n : Nat) (d : List Int) : List Int := (List.range 8).map fun j => if j < n then d[j]?.getD 0 else 0
theorem cutZ_cells (n : Nat) (hn : n ≤ 8) (x0 x1 x2 x3 x4 x5 x6 x7 : Int) :
    (([0, 0, 0, 0, 0, 0, 0, 0] : List Int).map (Value.int .u8)).toArray.toList.take 0 ++ ([x0, x1, x2, x3, x4, x5, x6, x7].take n).map (Value.int .u8) ++ (([0, 0, 0, 0, 0, 0, 0, 0] : List Int).map (Value.int .u8)).toArray.toList.drop (0 + (([x0, x1, x2, x3, x4, x5, x6, x7].take n).map (Value.int .u8)).length) = (cutZ n [x0, x1, x2, x3, x4, x5, x6, x7]).map (Value.int .u8) := by
  match n, hn with
  | 0, _ => rfl
  | 1, _ => rfl
  | 2, _ => rfl
  | 3, _ => rfl
  | 4, _ => rfl
  | 5, _ => rfl
  | 6, _ => rfl
  | 7, _ => rfl
  | 8, _ => rfl
theorem cutZ_eq (i : Int) (n : Nat) (hn : n ≤ 8) (hi : i ≤ 2047) (d : List Int) (hd : d.length = 8) : cutZ n d = d ↔ Rt ⟨i, n, d, false⟩ := by
  constructor
  · intro h
    refine ⟨hi, by simp only; omega, by simp only; omega, fun j hj => ?_⟩
    by_cases hlt : j < n
    · exact .inr ⟨by simp only; omega, rfl⟩
    · refine .inl ?_
      have hc : (cutZ n d)[j]?.getD 0 = 0 := by
        unfold cutZ
        simp [hj, hlt]
      rwa [h] at hc
  · intro h
    apply List.ext_getElem?
    intro j
    unfold cutZ
    rw [List.getElem?_map]
    by_cases hj : j < 8
    · have h2 : j < d.length := by omega
      have h3 := h.2.2.2 j hj
      simp only [List.getElem?_eq_getElem h2, Option.getD_some] at h3
      rw [List.getElem?_range hj, List.getElem?_eq_getElem h2]
      simp only [Option.map_some, List.getElem?_eq_getElem h2, Option.getD_some]
      split
      · rfl
      · rcases h3 with h3 | ⟨h3, _⟩
        · rw [h3]
        · omega
    · rw [List.getElem?_eq_none (by simp; omega), List.getElem?_eq_none (by omega)]
      rfl
theorem zero_eq (i n : Int) (hi : i ≤ 2047) (h0 : 0 ≤ n) (hn : n ≤ 8) (d : List Int) (hd : d.length = 8) : [0, 0, 0, 0, 0, 0, 0, 0] = d ↔ Rt ⟨i, n, d, true⟩ := by
  constructor
  · rintro rfl
    have hc : ∀ i : Nat, i < 8 → ([0, 0, 0, 0, 0, 0, 0, 0] : List Int)[i]?.getD 0 = 0 := by decide
    exact ⟨hi, h0, hn, fun j hj => .inl (hc j hj)⟩
  · intro h
    apply List.ext_getElem
    · simp [hd]
    · intro j h1 h2
      have h3 := h.2.2.2 j (by omega)
      simp only [List.getElem?_eq_getElem h2, Option.getD_some] at h3
      have hc : ∀ i (h : i < 8), ([0, 0, 0, 0, 0, 0, 0, 0] : List Int)[i]'h = 0 := by decide
      rw [hc j (by omega)]
      rcases h3 with h3 | ⟨_, h3⟩
      · exact h3.symm
      · simp at h3
/-- The copy of a frame's first bytes into a new row of eight. -/
theorem copy_plain (W : World) (g : Nat) (i m : Int) (b : Bool) (n : Nat) (hn : n ≤ 8) (x0 x1 x2 x3 x4 x5 x6 x7 : Int) (h0 : W.heap[g]? = some (.cells (Fm.cells ⟨i, m, [x0, x1, x2, x3, x4, x5, x6, x7], b⟩) 104 (0, 0)))
    (h1 : W.heap[g + 1]? = some (.cells (([0, 0, 0, 0, 0, 0, 0, 0] : List Int).map (Value.int .u8)).toArray 102 (0, 0))) :
    ∃ W', (Builtin.copy_ #[34, 34] 3 #[.slice (some ⟨g + 1, 0, none⟩) n 8, .slice (some ⟨g, 2, none⟩) 8 8]).run Tryd.prog W = .ok (.int .i64 n) W' ∧
      W'.heap[g]? = some (.cells (Fm.cells ⟨i, m, [x0, x1, x2, x3, x4, x5, x6, x7], b⟩) 104 (0, 0)) ∧ W'.heap[g + 1]? = some (.cells ((cutZ n [x0, x1, x2, x3, x4, x5, x6, x7]).map (Value.int .u8)).toArray 102 (0, 0)) ∧ Below (g + 1) W W' := by
  have hlen : (([x0, x1, x2, x3, x4, x5, x6, x7].take n).map (Value.int .u8)).length = n := by simp; omega
  have hr := run_copy_row (P := Tryd.prog) W 34 34 3 5 (g + 1) 0 n 8 ⟨g, 2, none⟩ 8 8 _ 102 (([x0, x1, x2, x3, x4, x5, x6, x7].take n).map (Value.int .u8)) Tryd.underlying34 (by kernel_rfl) h1
    (by rw [hlen]; simp [Nat.min_def]; omega)
    (by
      intro j v hj
      rw [List.getElem?_map, List.getElem?_take] at hj
      split at hj
      · have h2 := blk_cell h0 (2 + j)
        rw [fm_len _ _ _ _ j (by simp; omega)] at h2
        rw [show (⟨g, 2, none⟩ : Addr).add j = ⟨g, 2 + j, none⟩ by simp [Addr.add], h2]
        rw [List.getElem?_eq_getElem (by simp; omega)] at hj ⊢
        simpa using hj
      · simp at hj)
    (by rw [hlen]; simp; omega)
    (by intro v hv; obtain ⟨x, _, rfl⟩ := List.mem_map.1 hv; rfl)
  rw [cutZ_cells n hn, hlen] at hr
  refine ⟨_, hr, ?_, ?_, ?_⟩
  · exact (setRow_other W (g + 1) g _ (by omega)).trans h0
  · exact setRow_heap W (g + 1) _ _ _ _ h1
  · exact below_setRow (Below.refl _ _) (Nat.le_refl _) _
set_option maxHeartbeats 2000000 in
set_option maxRecDepth 100000 in
theorem fright_any (i n x0 x1 x2 x3 x4 x5 x6 x7 : Int) (b : Bool) (w : World) :
    Calls Tryd.prog 103 #[.agg #[.int .u16 i, .int .i64 n, .int .u8 x0, .int .u8 x1, .int .u8 x2, .int .u8 x3, .int .u8 x4, .int .u8 x5, .int .u8 x6, .int .u8 x7, .bool b]] w fun e w' =>
      (e = .returned (.bool true) ∧ Rt ⟨i, n, [x0, x1, x2, x3, x4, x5, x6, x7], b⟩ ∨ e = .returned (.bool false) ∧ ¬ Rt ⟨i, n, [x0, x1, x2, x3, x4, x5, x6, x7], b⟩) ∧ Below w.heap.size w w' := by
  obtain ⟨R, hR⟩ : ∃ R, Rt ⟨i, n, [x0, x1, x2, x3, x4, x5, x6, x7], b⟩ = R := ⟨_, rfl⟩
  rw [hR]
  by_cases hh : i ≤ 2047 ∧ 0 ≤ n ∧ n ≤ 8
  · obtain ⟨h1, h2, h3⟩ := hh
    rcases b with _ | _
    · obtain ⟨m, rfl⟩ := Int.eq_ofNat_of_zero_le h2
      have hm : m ≤ 8 := by omega
      have hcopy := fun W g => copy_plain W g i m false m hm x0 x1 x2 x3 x4 x5 x6 x7
      have hcd := cutZ_eq i m hm h1 [x0, x1, x2, x3, x4, x5, x6, x7] rfl
      rw [hR] at hcd
      obtain ⟨y0, y1, y2, y3, y4, y5, y6, y7, hy⟩ := eight (d := cutZ m [x0, x1, x2, x3, x4, x5, x6, x7]) (by simp [cutZ])
      rw [hy] at hcd hcopy
      obtain ⟨q, hq, heq⟩ := arr_dec [y0, y1, y2, y3, y4, y5, y6, y7] [x0, x1, x2, x3, x4, x5, x6, x7] rfl rfl
      have heq2 : ∀ W, (Op.equalIn 10000 102 (.agg #[.int .u8 y0, .int .u8 y1, .int .u8 y2, .int .u8 y3, .int .u8 y4, .int .u8 y5, .int .u8 y6, .int .u8 y7]) (.agg #[.int .u8 x0, .int .u8 x1, .int .u8 x2, .int .u8 x3, .int .u8 x4, .int .u8 x5, .int .u8 x6, .int .u8 x7])).run Tryd.prog W = .ok q W := heq
      have HC := Aside0.mk hcopy
      have HQ := Aside0.mk (hq.trans hcd)
      clear hcopy hcd hy hq heq hR
      go_enter Tryd.func103, Tryd.ntmps103
      go_wp2
      have hb0 := two_new1 w (.cells (Fm.cells ⟨i, m, [x0, x1, x2, x3, x4, x5, x6, x7], false⟩) 104) (.cells (([0, 0, 0, 0, 0, 0, 0, 0] : List Int).map (Value.int .u8)).toArray 102) 0
      have hb1 := two_new2 w (.cells (Fm.cells ⟨i, m, [x0, x1, x2, x3, x4, x5, x6, x7], false⟩) 104) (.cells (([0, 0, 0, 0, 0, 0, 0, 0] : List Int).map (Value.int .u8)).toArray 102) 0
      have hbw := two_below w (.cells (Fm.cells ⟨i, m, [x0, x1, x2, x3, x4, x5, x6, x7], false⟩) 104) (.cells (([0, 0, 0, 0, 0, 0, 0, 0] : List Int).map (Value.int .u8)).toArray 102) 0
      change ((w.alloc (Obj.cells #[.int .u16 i, .int .i64 m, .int .u8 x0, .int .u8 x1, .int .u8 x2, .int .u8 x3, .int .u8 x4, .int .u8 x5, .int .u8 x6, .int .u8 x7, .bool false] 104)).alloc (Obj.cells #[.int .u8 0, .int .u8 0, .int .u8 0, .int .u8 0, .int .u8 0, .int .u8 0, .int .u8 0, .int .u8 0] 102)).heap[w.heap.size]? = _ at hb0
      change ((w.alloc (Obj.cells #[.int .u16 i, .int .i64 m, .int .u8 x0, .int .u8 x1, .int .u8 x2, .int .u8 x3, .int .u8 x4, .int .u8 x5, .int .u8 x6, .int .u8 x7, .bool false] 104)).alloc (Obj.cells #[.int .u8 0, .int .u8 0, .int .u8 0, .int .u8 0, .int .u8 0, .int .u8 0, .int .u8 0, .int .u8 0] 102)).heap[w.heap.size + 1]? = _ at hb1
      change Below w.heap.size w ((w.alloc (Obj.cells #[.int .u16 i, .int .i64 m, .int .u8 x0, .int .u8 x1, .int .u8 x2, .int .u8 x3, .int .u8 x4, .int .u8 x5, .int .u8 x6, .int .u8 x7, .bool false] 104)).alloc (Obj.cells #[.int .u8 0, .int .u8 0, .int .u8 0, .int .u8 0, .int .u8 0, .int .u8 0, .int .u8 0, .int .u8 0] 102)) at hbw
      generalize ((w.alloc (Obj.cells #[.int .u16 i, .int .i64 m, .int .u8 x0, .int .u8 x1, .int .u8 x2, .int .u8 x3, .int .u8 x4, .int .u8 x5, .int .u8 x6, .int .u8 x7, .bool false] 104)).alloc (Obj.cells #[.int .u8 0, .int .u8 0, .int .u8 0, .int .u8 0, .int .u8 0, .int .u8 0, .int .u8 0, .int .u8 0] 102)) = W at hb0 hb1 hbw ⊢
      obtain ⟨f0, f1, f2, f3, f4, f5, f6, f7, f8, f9, f10, f11⟩ := fm_at hb0
      have HB0 := Aside0.mk hb0
      have HB1 := Aside0.mk hb1
      have HBW := Aside0.mk hbw
      clear hb0 hb1 hbw
      obtain ⟨W3, hrun, hc0, hc1, hcb⟩ := HC.out W.drew w.heap.size HB0.out HB1.out
      obtain ⟨g0, g1, g2, g3, g4, g5, g6, g7, g8, g9, g10, g11⟩ := fm_at hc0
      have r0 : W3.cell? ⟨w.heap.size + 1, 0, none⟩ = some (.int .u8 y0) := blk_cell hc1 0
      have r1 : W3.cell? ⟨w.heap.size + 1, 1, none⟩ = some (.int .u8 y1) := blk_cell hc1 1
      have r2 : W3.cell? ⟨w.heap.size + 1, 2, none⟩ = some (.int .u8 y2) := blk_cell hc1 2
      have r3 : W3.cell? ⟨w.heap.size + 1, 3, none⟩ = some (.int .u8 y3) := blk_cell hc1 3
      have r4 : W3.cell? ⟨w.heap.size + 1, 4, none⟩ = some (.int .u8 y4) := blk_cell hc1 4
      have r5 : W3.cell? ⟨w.heap.size + 1, 5, none⟩ = some (.int .u8 y5) := blk_cell hc1 5
      have r6 : W3.cell? ⟨w.heap.size + 1, 6, none⟩ = some (.int .u8 y6) := blk_cell hc1 6
      have r7 : W3.cell? ⟨w.heap.size + 1, 7, none⟩ = some (.int .u8 y7) := blk_cell hc1 7
      have HW3 := Aside0.mk ((HBW.out.drew).trans (hcb.mono (Nat.le_succ _)))
      clear hc0 hc1 hcb HC
      go_still_tail 5, (by kernel_rfl)
      change wpList _ _ _ _ _ W.drew
      generalize W.drew = W2 at hrun
      go_wp2
      go_ret
      refine ⟨?_, HW3.out⟩
      rcases q with _ | _
      · exact .inr ⟨rfl, fun h => by have := HQ.out.2 h; simp at this⟩
      · exact .inl ⟨rfl, HQ.out.1 rfl⟩
    · have hcd := zero_eq i n h1 h2 h3 [x0, x1, x2, x3, x4, x5, x6, x7] rfl
      rw [hR] at hcd
      obtain ⟨q, hq, heq⟩ := arr_dec [0, 0, 0, 0, 0, 0, 0, 0] [x0, x1, x2, x3, x4, x5, x6, x7] rfl rfl
      have heq2 : ∀ W, (Op.equalIn 10000 102 (.agg #[.int .u8 0, .int .u8 0, .int .u8 0, .int .u8 0, .int .u8 0, .int .u8 0, .int .u8 0, .int .u8 0]) (.agg #[.int .u8 x0, .int .u8 x1, .int .u8 x2, .int .u8 x3, .int .u8 x4, .int .u8 x5, .int .u8 x6, .int .u8 x7])).run Tryd.prog W = .ok q W := heq
      have HQ := Aside0.mk (hq.trans hcd)
      clear hcd hq heq hR
      go_enter Tryd.func103, Tryd.ntmps103
      go_wp2
      go_ret
      refine ⟨?_, two_below w _ _ 0⟩
      rcases q with _ | _
      · exact .inr ⟨rfl, fun h => by have := HQ.out.2 h; simp at this⟩
      · exact .inl ⟨rfl, HQ.out.1 rfl⟩
  · have HR := Aside0.mk (show ¬ R by
      rw [← hR]
      exact fun h => hh ⟨h.1, h.2.1, h.2.2.1⟩)
    clear hR
    go_enter Tryd.func103, Tryd.ntmps103
    go_wp2
    all_goals
      go_ret
      exact ⟨.inr ⟨rfl, HR.out⟩, below_alloc (Below.refl _ _) _⟩
end Go.Proofs.YtokebpeplopjhaaDoor.Frm
namespace Go.Proofs.YtokebpeplopjhaaDoor.Mp
open Go.RowKit Go.Shelf Go.Proofs.YtokebpeplopjhaaDoor.Rng Go.Proofs.YtokebpeplopjhaaDoorW.PrintWords Go.Proofs.YtokebpeplopjhaaDoorW.PrintMore Go.Proofs.YtokebpeplopjhaaDoorW.PrintLast

theorem hear1_enter : ∀ args X, (callFunc 104 args).run Tryd.prog X = .ok (.enter 104 args) X := enter_of Tryd.func104 (by kernel_rfl) (by kernel_rfl)
/-- What stays of an object's turn: before the place p as it was, behind it as it is. -/
def atP {α : Type} (p : Nat) (a b : α) (i : Nat) : α := if i ≤ p then a else b
theorem atP_lo {α : Type} {p i : Nat} (a b : α) (h : i ≤ p) : atP p a b i = a := if_pos h
theorem atP_hi {α : Type} {p i : Nat} (a b : α) (h : ¬ i ≤ p) : atP p a b i = b := if_neg h
def HearS (B : Nat) (w : World) (g gd bi bs : Nat) (os os' : Nat → Co) (d d' : DD) (vm : Nat → Value) (p i : Nat) (X : World) : Prop :=
  CnAt X g (.pointer (some ⟨gd, 0, none⟩)) (atP p os os' i) vm true ∧ DictB B X gd bi bs (atP p d d' i) ∧ Fr (fun k => k = g ∨ k = gd ∨ k = bi ∨ w.heap.size ≤ k) w X
/-- An object alone is on; the frame is its own. -/
structure HearAt (B : Nat) (w : World) (g gd bi bs : Nat) (d : DD) (os : Nat → Co) (vm : Nat → Value) (p : Nat) (id : Int) (n : Nat) : Prop where
  cn : CnAt w g (.pointer (some ⟨gd, 0, none⟩)) os vm true
  di : DictB B w gd bi bs d
  ne : gd ≠ g ∧ bi ≠ g ∧ bs ≠ g
  good : Good d
  tb : TblB B w
  ge : B ≤ g
  p8 : p < 8
  on : (os p).cm.on = true
  off : ∀ k, k < 8 → k ≠ p → (os k).cm.on = false
  id : (os p).cm.id = id
  kind : 254 ≤ (os p).cm.kind
  sz : sizeC (os p).maps ≤ n
  sm : sumC (os p).maps ≤ 64
  b0 : ∀ m ∈ (os p).maps, 0 ≤ m.bits
  mw : ∀ m ∈ (os p).maps, m.Wf
  ml : (os p).maps.length ≤ 64
theorem HearAt.below {B : Nat} {w w' : World} {g gd bi bs : Nat} {d : DD} {os : Nat → Co} {vm : Nat → Value} {p : Nat} {id : Int} {n : Nat} (h : HearAt B w g gd bi bs d os vm p id n) (hb : Below w.heap.size w w') : HearAt B w' g gd bi bs d os vm p id n :=
  ⟨h.cn.below hb, h.di.below hb, h.ne, h.good, h.tb.below (hb.mono (by have := h.cn.lt; have := h.ge; omega)), h.ge, h.p8, h.on, h.off, h.id, h.kind, h.sz, h.sm, h.b0, h.mw, h.ml⟩
def hearR (p : Nat) (code : Int) (i : Nat) : Option Int := if i = p then some code else Option.none
theorem hearR_at (p : Nat) (code : Int) : hearR p code p = some code := if_pos rfl
theorem hearR_no {p i : Nat} (code : Int) (h : i ≠ p) : hearR p code i = Option.none := if_neg h
set_option maxRecDepth 100000 in
theorem ceach_hear (B g gd bi bs Bf Bn Bc Bo p : Nat) (d : DD) (os : Nat → Co) (vm : Nat → Value) (now id : Int) (n : Nat) (x0 x1 x2 x3 x4 x5 x6 x7 : Int) (rm : Bool) (w : World) (h : HearAt B w g gd bi bs d os vm p id n)
    (hf : w.heap[Bf]? = some (.cells #[.int .u16 id, .int .i64 n, .int .u8 x0, .int .u8 x1, .int .u8 x2, .int .u8 x3, .int .u8 x4, .int .u8 x5, .int .u8 x6, .int .u8 x7, .bool rm] 104 (0, 0))) (hn8 : n ≤ 8) (hxs : Byt [x0, x1, x2, x3, x4, x5, x6, x7]) (hn : w.cell? ⟨Bn, 0, none⟩ = some (.int .i64 now)) (hc : w.cell? ⟨Bc, 0, none⟩ = some (.pointer (some ⟨g, 0, none⟩)))
    (hne : ∀ k, (k = Bf ∨ k = Bn ∨ k = Bc) → k ≠ g ∧ k ≠ gd ∧ k ≠ bi) (code : Int) (d' : DD) (hu : (unpackC (some d) (os p).maps (([x0, x1, x2, x3, x4, x5, x6, x7] : List Int).take n)).2 = code) (hd' : writesC d (unpackC (some d) (os p).maps (([x0, x1, x2, x3, x4, x5, x6, x7] : List Int).take n)).1 = d') :
    Calls Tryd.prog 100 #[.pointer (some ⟨g, 0, none⟩), .func (Fn.func 104) #[] #[.pointer (some ⟨Bf, 0, none⟩), .pointer (some ⟨Bn, 0, none⟩), .pointer (some ⟨Bc, 0, none⟩), .pointer (some ⟨Bo, 0, none⟩)]] w
      (EachSaid (HearS B w g gd bi bs os (upd os p (hearO (os p) now)) d d' vm p) (hearR p code)) := by
  have hgl := h.cn.lt
  have hdl := h.di.lt
  have hlt : ∀ k, (k = Bf ∨ k = Bn ∨ k = Bc) → k < w.heap.size := fun k hk => by
    rcases hk with rfl | rfl | rfl
    · exact (Array.getElem?_eq_some_iff.1 hf).1
    · exact World.block_lt_of_cell? w _ hn
    · exact World.block_lt_of_cell? w _ hc
  have hM : ∀ k, (k = Bf ∨ k = Bn ∨ k = Bc) → ¬ (k = g ∨ k = gd ∨ k = bi ∨ w.heap.size ≤ k) := fun k hk e => by
    have h1 := hne k hk
    have h2 := hlt k hk
    rcases e with e | e | e | e
    · exact h1.1 e
    · exact h1.2.1 e
    · exact h1.2.2 e
    · omega
  have hos : ∀ i, i < 8 → ∀ k, k < 8 → (atP p os (upd os p (hearO (os p) now)) i k).cm.on = (os k).cm.on := fun i _ k _ => by
    unfold atP
    split
    · rfl
    · by_cases e : k = p
      · subst e
        rw [upd_same]
        rfl
      · rw [upd_ne _ _ e]
  refine ceach_any g _ _ (HearS B w g gd bi bs os (upd os p (hearO (os p) now)) d d' vm p) (fun i => (os i).cm.on) (hearR p code) w hear1_enter ?_ h.cn.gs ?_ ?_ ?_ ?_ ?_
  · exact ⟨by rw [atP_lo _ _ (Nat.zero_le _)]; exact h.cn, by rw [atP_lo _ _ (Nat.zero_le _)]; exact h.di, Fr.refl _ _⟩
  · intro i X hi hX
    have h1 := hX.1.ob i hi 0 _ rfl
    rw [hos i hi i hi] at h1
    exact h1
  · intro i X hi ho hX
    have hip : i ≠ p := fun e => by rw [e, h.on] at ho; cases ho
    have e1 : ∀ {α : Type} (a b : α), atP p a b (i + 1) = atP p a b i := fun a b => by
      by_cases hl : i ≤ p
      · rw [atP_lo _ _ hl, atP_lo _ _ (by omega)]
      · rw [atP_hi _ _ hl, atP_hi _ _ (by omega)]
    exact ⟨by rw [e1]; exact hX.1, by rw [e1]; exact hX.2.1, hX.2.2⟩
  · intro i hi ho
    exact hearR_no code (fun e => by rw [e, h.on] at ho; cases ho)
  · intro i X hi ho hX
    have hip : i = p := Classical.byContradiction fun e => by rw [h.off i hi e] at ho; cases ho
    subst hip
    obtain ⟨q1, q2, q3⟩ := hX
    rw [atP_lo _ _ (Nat.le_refl _)] at q1 q2
    have hBw : Below B w X := q3.below (fun k hk => ⟨by have := h.ge; omega, fun e => by
      have h1 := h.ge
      have h2 := h.di.ge
      rcases e with e | e | e | e <;> omega⟩)
    refine (chear_yes B g gd bi bs Bf Bn Bc Bo d os vm true i now id n x0 x1 x2 x3 x4 x5 x6 x7 rm X q1 hi q2 h.ne h.good (h.tb.below hBw) h.ge (q3.blk hf (hM Bf (.inl rfl))) hn8 (hne Bf (.inl rfl)).1 (fun e => by rcases e with e | e; exact (hne Bf (.inl rfl)).2.1 e; exact (hne Bf (.inl rfl)).2.2 e) (fun e => by rcases e with e | e; exact (hne Bc (.inr (.inr rfl))).2.1 e; exact (hne Bc (.inr (.inr rfl))).2.2 e) hxs (q3.cell hn (hM Bn (.inr (.inl rfl)))) (hne Bn (.inr (.inl rfl))).1 (q3.cell hc (hM Bc (.inr (.inr rfl)))) (hne Bc (.inr (.inr rfl))).1 h.id h.kind h.sz h.sm h.b0 h.mw h.ml).mono ?_
    rintro e X' ⟨rfl, h1, h2, h3⟩
    rw [hu]
    rw [hd'] at h2
    refine ⟨⟨code, .inl ⟨rfl, hearR_at _ _⟩⟩, ⟨by rw [atP_hi _ _ (by omega)]; exact h1, by rw [atP_hi _ _ (by omega)]; exact h2, q3.trans (h3.mono (fun k e => by rcases e with e | e | e; exact .inl e; exact .inr (.inl e); exact .inr (.inr (.inl e))))⟩, h3.size, .inr (h3.mono (fun k e => by rcases e with e | e | e <;> omega))⟩
  · intro i X X' c hr hX hs hfr hb
    have hip : i = p := Classical.byContradiction fun e => by rw [hearR_no code e] at hr; cases hr
    subst hip
    have hb := hb (told_none (fun k hk => hearR_no code (by omega)))
    exact ⟨hX.1.below hb, hX.2.1.below hb, hX.2.2.trans (hfr.mono (fun k e => .inr (.inr (.inr e))))⟩
abbrev fcells (id : Int) (n : Nat) (x0 x1 x2 x3 x4 x5 x6 x7 : Int) : Array Value := #[.int .u16 id, .int .i64 n, .int .u8 x0, .int .u8 x1, .int .u8 x2, .int .u8 x3, .int .u8 x4, .int .u8 x5, .int .u8 x6, .int .u8 x7, .bool false]
/-- What is told, and what stays, when a frame is heard. -/
def HeardSaid (B : Nat) (w : World) (g gd bi bs : Nat) (os : Nat → Co) (d' : DD) (vm : Nat → Value) (p : Nat) (code now : Int) (e : Ending) (w' : World) : Prop :=
  (∃ A c, e = .returned (.slice A 1 c) ∧ kTold.C w' A 1 [[.int .i64 p, .int .u32 code]]) ∧ CnAt w' g (.pointer (some ⟨gd, 0, none⟩)) (upd os p (hearO (os p) now)) vm true ∧ DictB B w' gd bi bs d' ∧ Fr (fun k => k = g ∨ k = gd ∨ k = bi) w w'
set_option maxRecDepth 100000 in
set_option maxHeartbeats 4000000 in
theorem cHear_one (B g gd bi bs p : Nat) (d : DD) (os : Nat → Co) (vm : Nat → Value) (now id : Int) (n : Nat) (x0 x1 x2 x3 x4 x5 x6 x7 : Int) (opn : Bool) (w : World) (h : HearAt B w g gd bi bs d os vm p id n)
    (hn8 : n ≤ 8) (hxs : Byt [x0, x1, x2, x3, x4, x5, x6, x7]) (hrt : Frm.Rt ⟨id, n, [x0, x1, x2, x3, x4, x5, x6, x7], false⟩) (htm : timeC now) (code : Int) (d' : DD) (hu : (unpackC (some d) (os p).maps (([x0, x1, x2, x3, x4, x5, x6, x7] : List Int).take n)).2 = code) (hd' : writesC d (unpackC (some d) (os p).maps (([x0, x1, x2, x3, x4, x5, x6, x7] : List Int).take n)).1 = d') :
    Calls Tryd.prog 56 #[.pointer (some ⟨g, 0, none⟩), .agg (fcells id n x0 x1 x2 x3 x4 x5 x6 x7), .int .i64 now, .bool opn] w (HeardSaid B w g gd bi bs os d' vm p code now) := by
  have hgl := h.cn.lt
  have hdl := h.di.lt
  have hp8 := h.p8
  obtain ⟨w1, hw1⟩ : ∃ w1, w.alloc (.cells #[.pointer (some ⟨g, 0, none⟩)] 95) = w1 := ⟨_, rfl⟩
  have s1 : w1.heap.size = w.heap.size + 1 := by rw [← hw1]; simp
  have b1 : Below w.heap.size w w1 := by rw [← hw1]; exact below_alloc (Below.refl _ _) _
  have k1 : w1.heap[w.heap.size]? = some (.cells #[.pointer (some ⟨g, 0, none⟩)] 95 (0, 0)) := by rw [← hw1]; exact blk_new w _
  obtain ⟨w2, hw2⟩ : ∃ w2, w1.alloc (.cells (fcells id n x0 x1 x2 x3 x4 x5 x6 x7) 104) = w2 := ⟨_, rfl⟩
  have s2 : w2.heap.size = w.heap.size + 1 + 1 := by rw [← hw2]; simp [s1]
  have b2 : Below w1.heap.size w1 w2 := by rw [← hw2]; exact below_alloc (Below.refl _ _) _
  have k2 : w2.heap[w.heap.size + 1]? = some (.cells (fcells id n x0 x1 x2 x3 x4 x5 x6 x7) 104 (0, 0)) := by rw [← s1, ← hw2]; exact blk_new w1 _
  obtain ⟨w3, hw3⟩ : ∃ w3, w2.alloc (.cells #[.int .i64 now] 2) = w3 := ⟨_, rfl⟩
  have s3 : w3.heap.size = w.heap.size + 1 + 1 + 1 := by rw [← hw3]; simp [s2]
  have b3 : Below w2.heap.size w2 w3 := by rw [← hw3]; exact below_alloc (Below.refl _ _) _
  have k3 : w3.heap[w.heap.size + 1 + 1]? = some (.cells #[.int .i64 now] 2 (0, 0)) := by rw [← s2, ← hw3]; exact blk_new w2 _
  obtain ⟨w4, hw4⟩ : ∃ w4, w3.alloc (.cells #[.bool opn] 4) = w4 := ⟨_, rfl⟩
  have b4 : Below w3.heap.size w3 w4 := by rw [← hw4]; exact below_alloc (Below.refl _ _) _
  have b34 := b3.trans (b4.mono b3.size)
  have b24 := b2.trans (b34.mono b2.size)
  have b14 := b1.trans (b24.mono b1.size)
  have c1 := blk_below k1 b24
  have c2 := blk_below k2 b34
  have c3 := blk_below k3 b4
  have HB4 := Aside0.mk b14
  have HSZ := Aside0.mk (show w.heap.size + 1 + 1 + 1 ≤ w4.heap.size by have := b4.size; omega)
  have HAT := Aside0.mk (h.below b14)
  have HFR := Aside0.mk fun (X : World) => Frm.fright_any id n x0 x1 x2 x3 x4 x5 x6 x7 false X
  have HRT := Aside0.mk hrt
  have HTM := Aside0.mk (decide_eq_true htm)
  have HE := Aside0.mk fun (X : World) (hX : Below w4.heap.size w4 X) => ceach_hear B g gd bi bs (w.heap.size + 1) (w.heap.size + 1 + 1) w.heap.size (w.heap.size + 1 + 1 + 1) p d os vm now id n x0 x1 x2 x3 x4 x5 x6 x7 false X (HAT.out.below hX) (blk_below c2 hX) hn8 hxs (pw_cell_below hX (Go.Proofs.YtokebpeplopjhaaDoorW.PrintWords.blk_cell c3 0)) (pw_cell_below hX (Go.Proofs.YtokebpeplopjhaaDoorW.PrintWords.blk_cell c1 0)) (fun k hk => by omega) code d' hu hd'
  have y0 := Go.Proofs.YtokebpeplopjhaaDoorW.PrintWords.blk_cell c1 0
  have yn := Go.Proofs.YtokebpeplopjhaaDoorW.PrintWords.blk_cell c3 0
  have f0 := Go.Proofs.YtokebpeplopjhaaDoorW.PrintWords.blk_cell c2 0
  have f1 := Go.Proofs.YtokebpeplopjhaaDoorW.PrintWords.blk_cell c2 1
  have f2 := Go.Proofs.YtokebpeplopjhaaDoorW.PrintWords.blk_cell c2 2
  have f3 := Go.Proofs.YtokebpeplopjhaaDoorW.PrintWords.blk_cell c2 3
  have f4 := Go.Proofs.YtokebpeplopjhaaDoorW.PrintWords.blk_cell c2 4
  have f5 := Go.Proofs.YtokebpeplopjhaaDoorW.PrintWords.blk_cell c2 5
  have f6 := Go.Proofs.YtokebpeplopjhaaDoorW.PrintWords.blk_cell c2 6
  have f7 := Go.Proofs.YtokebpeplopjhaaDoorW.PrintWords.blk_cell c2 7
  have f8 := Go.Proofs.YtokebpeplopjhaaDoorW.PrintWords.blk_cell c2 8
  have f9 := Go.Proofs.YtokebpeplopjhaaDoorW.PrintWords.blk_cell c2 9
  have f10 := Go.Proofs.YtokebpeplopjhaaDoorW.PrintWords.blk_cell c2 10
  have hmf : ∀ (fn : Fn) (first cap : Array Value) (w : World), (Instr.makeFunc fn first cap).run Tryd.prog w = .ok (.func fn first cap) w := fun _ _ _ _ => rfl
  clear h hrt htm hu hd' b1 b2 b3 b4 b34 b24 b14 c1 c2 c3 k1 k2 k3 s1 s2 s3
  subst hw1 hw2 hw3 hw4
  go_enter Tryd.func56, Tryd.ntmps56
  go_wp2_with (first
    | (go_at_call 99; refine (ctime_any _ _).mono ?_; rw [HTM.out]; rintro e w5 ⟨rfl, hw⟩; have hw := hw.symm; subst hw)
    | (go_at_call 103; go_loud (refine (HFR.out _).mono ?_; rintro e w5 ⟨⟨rfl, -⟩ | ⟨-, hno⟩, hb5⟩; rotate_left; exact absurd HRT.out hno; have HB5 := Aside0.mk hb5; have y0' := pw_cell_below hb5 y0; have f10' := pw_cell_below hb5 f10; clear hb5 y0 yn f0 f1 f2 f3 f4 f5 f6 f7 f8 f9 f10))
    | (go_at_call 100; go_loud (refine (HE.out _ HB5.out).mono ?_; rintro e w6 ⟨A, c, rfl, hC, hS⟩; have HC := Aside0.mk hC; have HS := Aside0.mk hS; clear hC hS)))
  go_ret
  have ht : toldL (hearR p code) 8 = [[.int .i64 p, .int .u32 code]] := told_one (hearR_at _ _) hp8 (fun i _ hne => hearR_no code hne)
  have hC := HC.out
  rw [ht] at hC
  obtain ⟨q1, q2, q3⟩ := HS.out
  rw [atP_hi _ _ (by omega)] at q1 q2
  have h4 := HB4.out.size
  have h5 := HB5.out.size
  refine ⟨⟨A, c, ?_, hC⟩, q1, q2, (((Fr.of_below HB4.out).trans (Fr.of_below HB5.out)).trans q3).weak (fun k hk e => by rcases e with e | e | e | e; exact .inl e; exact .inr (.inl e); exact .inr (.inr e); omega)⟩
  show Ending.returned (.slice A (toldL (hearR p code) 8).length c) = _
  rw [ht]
  rfl
end Go.Proofs.YtokebpeplopjhaaDoor.Mp
set_option linter.unusedSimpArgs false
namespace Go.Proofs.YtokebpeplopjhaaDoor.Mp
open Go.RowKit Go.Shelf Go.Proofs.YtokebpeplopjhaaDoor.Rng Go.Proofs.YtokebpeplopjhaaDoorW.PrintWords Go.Proofs.YtokebpeplopjhaaDoorW.PrintMore Go.Proofs.YtokebpeplopjhaaDoorW.PrintLast

/-- When an object would be late. -/
def dueO (x : Co) : List Int := if x.watched = true then [wrap64 (x.at_ + x.cm.ev)] else []
def Due1Said (Bl base : Nat) (l : List Int) (x : Co) (X : World) (e : Ending) (X' : World) : Prop :=
  e = .returned (.tuple #[.int .u32 0, .bool false]) ∧ (∃ v', X'.cell? ⟨Bl, 0, none⟩ = some v' ∧ X'.frozen? ⟨Bl, 0, none⟩ = false ∧ Kd.R kN 2 X' base (fun _ => True) v' (l ++ dueO x)) ∧ Fr (fun k => k = Bl ∨ base ≤ k) X X'
set_option maxRecDepth 100000 in
set_option maxHeartbeats 2000000 in
theorem cdue1_any (g Bl base i : Nat) (vd : Value) (os : Nat → Co) (vm : Nat → Value) (goes : Bool) (v : Value) (l : List Int) (X : World) (h : CnAt X g vd os vm goes) (hi : i < 8) (hv : X.cell? ⟨Bl, 0, none⟩ = some v) (hfz : X.frozen? ⟨Bl, 0, none⟩ = false) (hR : Kd.R kN 2 X base (fun _ => True) v l) (hb : Bl < base) (hbx : base ≤ X.heap.size) (hl : l.length ≤ 100) :
    Calls Tryd.prog 105 #[.pointer (some ⟨g, 1 + i * 20, none⟩), .pointer (some ⟨Bl, 0, none⟩)] X (Due1Said Bl base l (os i) X) := by
  have hob := h.ob i hi
  have y4 := hob 4 _ rfl
  have y8 := hob 8 _ rfl
  have HW := Aside0.mk (cwatched_any (os i) (vm i) g (1 + i * 20) X hob)
  obtain ⟨wt, hwt⟩ : ∃ wt, (os i).watched = wt := ⟨_, rfl⟩
  rw [hwt] at HW
  have HWT := Aside0.mk hwt
  generalize hx : os i = x at *
  have HBL := Aside0.mk (And.intro hv (And.intro hfz (And.intro hb (And.intro hbx hl))))
  have HR := Aside0.mk hR
  obtain ⟨⟨on, id, kind, inh, ev, st⟩, maps, heard, at_, late, holds, by_, n⟩ := x
  simp only at y4 y8
  clear h hob hx hwt hv hfz hR hb hbx hl
  cases wt with
  | false =>
    clear y4 y8
    go_enter Tryd.func105, Tryd.ntmps105
    go_wp2_with (go_at_call 102; refine HW.out.mono ?_; rintro e w2 ⟨rfl, hw⟩; have hw := hw.symm; subst hw)
    go_ret2
    refine ⟨rfl, ⟨v, HBL.out.1, HBL.out.2.1, ?_⟩, Fr.refl _ _⟩
    unfold dueO
    rw [if_neg (by rw [HWT.out]; simp), List.append_nil]
    exact HR.out
  | true =>
    obtain ⟨t, htt⟩ : ∃ t, wrap64 (at_ + ev) = t := ⟨_, rfl⟩
    have htt2 : IntKind.i64.wrap (at_ + ev) = t := by rw [i64_w]; exact htt
    have HT := Aside0.mk htt
    have hBD : Below X.heap.size X X.drew := below_drew (Below.refl _ _)
    have u0 : ∀ Z, Below X.heap.size X Z → Z.cell? ⟨Bl, 0, none⟩ = some v := fun Z hZ => pw_cell_below hZ HBL.out.1
    have u4 : ∀ Z, Below X.heap.size X Z → _ := fun Z hZ => pw_cell_below hZ y4
    have u8 : ∀ Z, Below X.heap.size X Z → _ := fun Z hZ => pw_cell_below hZ y8
    have HRD := Aside0.mk (Kd.R_drew HR.out)
    clear htt y4 y8
    go_enter Tryd.func105, Tryd.ntmps105
    go_wp2_with (go_at_call 102; refine HW.out.mono ?_; rintro e w2 ⟨rfl, hw⟩; have hw := hw.symm; subst hw)
    refine wp_region_last_drew (S := fun Z => Below X.heap.size X Z) (ds := [12, 13]) (by kernel_rfl) hBD (fun hHeld => ?_)
    have HBD := Aside0.mk hBD
    clear hBD
    generalize X.drew = wd at hHeld HRD HBD ⊢
    refine wpAnyLast_take (i := 0) (oi := { dst := some 7, op := _, type := _, pos := _, after := _, guard := none }) (v := ?_) rfl (by kernel_rfl) (by kernel_rfl) (by kernel_rfl) (by kernel_rfl) (by kernel_rfl) (fun _ _ _ h => h) (Or.inl ⟨rfl, ?_⟩) hHeld ?_
    rotate_left
    · intro w hSw
      try dsimp only at hSw
      go_simp
      try exact rfl
    try simp only [Act.put, List.setIfInBounds_toArray, List.set_cons_zero, List.set_cons_succ]
    refine wpAnyLast_take (i := 1) (oi := { dst := some 8, op := _, type := _, pos := _, after := _, guard := none }) (v := ?_) rfl (by kernel_rfl) (by kernel_rfl) (by kernel_rfl) (by kernel_rfl) (by kernel_rfl) (fun _ _ _ h => h) (Or.inl ⟨rfl, ?_⟩) hHeld ?_
    rotate_left
    · intro w hSw
      try dsimp only at hSw
      go_simp
      try exact rfl
    try simp only [Act.put, List.setIfInBounds_toArray, List.set_cons_zero, List.set_cons_succ]
    refine wpAnyLast_take (i := 2) (oi := { dst := some 9, op := _, type := _, pos := _, after := _, guard := none }) (v := ?_) rfl (by kernel_rfl) (by kernel_rfl) (by kernel_rfl) (by kernel_rfl) (by kernel_rfl) (fun _ _ _ h => h) (Or.inl ⟨rfl, ?_⟩) hHeld ?_
    rotate_left
    · intro w hSw
      try dsimp only at hSw
      go_simp
      try exact rfl
    try simp only [Act.put, List.setIfInBounds_toArray, List.set_cons_zero, List.set_cons_succ]
    refine wpAnyLast_take (i := 3) (oi := { dst := some 10, op := _, type := _, pos := _, after := _, guard := none }) (v := ?_) rfl (by kernel_rfl) (by kernel_rfl) (by kernel_rfl) (by kernel_rfl) (by kernel_rfl) (fun _ _ _ h => h) (Or.inl ⟨rfl, ?_⟩) hHeld ?_
    rotate_left
    · intro w hSw
      try dsimp only at hSw
      go_simp
      try exact rfl
    try simp only [Act.put, List.setIfInBounds_toArray, List.set_cons_zero, List.set_cons_succ]
    refine wpAnyLast_take (i := 4) (oi := { dst := some 11, op := _, type := _, pos := _, after := _, guard := none }) (v := ?_) rfl (by kernel_rfl) (by kernel_rfl) (by kernel_rfl) (by kernel_rfl) (by kernel_rfl) (fun _ _ _ h => h) (Or.inl ⟨rfl, ?_⟩) hHeld ?_
    rotate_left
    · intro w hSw
      try dsimp only at hSw
      go_simp
      try exact rfl
    try simp only [Act.put, List.setIfInBounds_toArray, List.set_cons_zero, List.set_cons_succ]
    refine wpAnyLast_take (i := 5) (oi := { dst := some 12, op := _, type := _, pos := _, after := _, guard := none }) (v := ?_) rfl (by kernel_rfl) (by kernel_rfl) (by kernel_rfl) (by kernel_rfl) (by kernel_rfl) (fun _ _ _ h => h) (Or.inl ⟨rfl, ?_⟩) hHeld ?_
    rotate_left
    · intro w hSw
      try dsimp only at hSw
      go_simp
      try exact rfl
    try simp only [Act.put, List.setIfInBounds_toArray, List.set_cons_zero, List.set_cons_succ]
    refine wpAnyLast_take (i := 6) (oi := { dst := some 13, op := _, type := _, pos := _, after := _, guard := none }) (v := ?_) rfl (by kernel_rfl) (by kernel_rfl) (by kernel_rfl) (by kernel_rfl) (by kernel_rfl) (fun _ _ _ h => h) (Or.inl ⟨rfl, ?_⟩) hHeld ?_
    rotate_left
    · intro w hSw
      try dsimp only at hSw
      go_simp
      try exact rfl
    try simp only [Act.put, List.setIfInBounds_toArray, List.set_cons_zero, List.set_cons_succ]
    refine wpAnyLast_take (i := 7) (oi := { dst := some 14, op := _, type := _, pos := _, after := _, guard := none }) (v := ?_) rfl (by kernel_rfl) (by kernel_rfl) (by kernel_rfl) (by kernel_rfl) (by kernel_rfl) (fun _ _ _ h => h) (Or.inl ⟨rfl, ?_⟩) hHeld ?_
    rotate_left
    · intro w hSw
      try dsimp only at hSw
      go_simp
      try exact rfl
    try simp only [Act.put, List.setIfInBounds_toArray, List.set_cons_zero, List.set_cons_succ]
    refine wpAnyLast_take (i := 8) (oi := { dst := some 15, op := _, type := _, pos := _, after := _, guard := none }) (v := ?_) rfl (by kernel_rfl) (by kernel_rfl) (by kernel_rfl) (by kernel_rfl) (by kernel_rfl) (fun _ _ _ h => h) (Or.inl ⟨rfl, ?_⟩) hHeld ?_
    rotate_left
    · intro w hSw
      try dsimp only at hSw
      go_simp
      try exact rfl
    try simp only [Act.put, List.setIfInBounds_toArray, List.set_cons_zero, List.set_cons_succ]
    refine wpAnyLast_take (i := 9) (oi := { dst := some 16, op := _, type := _, pos := _, after := _, guard := none }) (v := ?_) rfl (by kernel_rfl) (by kernel_rfl) (by kernel_rfl) (by kernel_rfl) (by kernel_rfl) (fun _ _ _ h => h) (Or.inl ⟨rfl, ?_⟩) hHeld ?_
    rotate_left
    · intro w hSw
      try dsimp only at hSw
      go_simp
      try exact rfl
    try simp only [Act.put, List.setIfInBounds_toArray, List.set_cons_zero, List.set_cons_succ]
    refine wpAnyLast_take (i := 10) (oi := { dst := some 17, op := _, type := _, pos := _, after := _, guard := none }) (v := ?_) rfl (by kernel_rfl) (by kernel_rfl) (by kernel_rfl) (by kernel_rfl) (by kernel_rfl) (fun _ _ _ h => h) (Or.inl ⟨rfl, ?_⟩) hHeld ?_
    rotate_left
    · intro w hSw
      try dsimp only at hSw
      go_simp
      try exact rfl
    try simp only [Act.put, List.setIfInBounds_toArray, List.set_cons_zero, List.set_cons_succ]
    clear u0 u4 u8
    refine wpAnyLast_ready (rs := [11]) (by kernel_rfl) (by simp) ?_
    refine AllReadyL.cons (o := _) rfl (by decide) (fun K hK => ?_) AllReadyL.nil
    go_simp
    have hb2 : Below X.heap.size X (wd.alloc (.cells #[.int .i64 t] 2)) := HBD.out.trans ((below_alloc (Below.refl _ _) _).mono HBD.out.size)
    refine hK.out _ _ hb2 (fun hHeld2 => ?_)
    clear hK K hHeld
    try simp only [Act.put, List.setIfInBounds_toArray, List.set_cons_zero, List.set_cons_succ]
    refine wpAnyLast_ready (rs := [12]) (by kernel_rfl) (by simp) ?_
    refine AllReadyL.cons_last (o := _) rfl (by decide) (fun K hK => ?_) AllReadyL.nil
    refine Kd.R_append_step kN (w0 := wd) (W := wd) base (by rfl) (.tmp 7) (.tmp 18) 174 2 (.int .i64 0) 8 rfl Tryd.underlying174 info_i64 rfl (by decide) (by decide) _ l t [.int .i64 t] (fun _ => True) (fun _ => False) rfl rfl rfl (fun _ hk => hk.elim) (fun _ _ => trivial) HRD.out (Below.refl _ _) (Nat.le_trans HBL.out.2.2.2.1 HBD.out.size) (by have := HBL.out.2.2.2.2; omega) ?_
    intro v9 w9 hown hb9 hg hat
    obtain ⟨A9, c9, hv9, -, -⟩ := Kd.R_reads hown
    subst hv9
    obtain ⟨n9, hn9⟩ : ∃ n9, (l ++ [t]).length = n9 := ⟨_, rfl⟩
    have HN9 := Aside0.mk hn9
    rw [hn9] at hown
    simp only [hn9] at *
    clear hn9
    have HO9 := Aside0.mk hown
    have HB9 := Aside0.mk hb9
    have HG9 := Aside0.mk hg
    clear hown hb9 hg hat
    refine hK.out _ _ ?_
    clear hK K
    try simp only [Act.put, List.setIfInBounds_toArray, List.set_cons_zero, List.set_cons_succ]
    have z0 : w9.cell? ⟨Bl, 0, none⟩ = some v := (HB9.out.cell (p := ⟨Bl, 0, none⟩) HBL.out.2.2.1).trans (pw_cell_below HBD.out HBL.out.1)
    have zf : w9.frozen? ⟨Bl, 0, none⟩ = false := ((World.frozen?_of_block (a := ⟨Bl, 0, none⟩) (HB9.out.block Bl HBL.out.2.2.1)).trans (World.frozen?_of_block (a := ⟨Bl, 0, none⟩) (HBD.out.block Bl (Nat.lt_of_lt_of_le HBL.out.2.2.1 HBL.out.2.2.2.1)))).trans HBL.out.2.1
    refine wpAnyLast_ready (rs := [13]) (by kernel_rfl) (by simp) ?_
    refine AllReadyL.cons_last (o := _) rfl (by decide) (fun K hK => ?_) AllReadyL.nil
    go_simp
    refine hK.out _ _ ?_
    clear hK K
    try simp only [Act.put, List.setIfInBounds_toArray, List.set_cons_zero, List.set_cons_succ]
    refine wpAnyLast_done (by kernel_rfl) ?_ _
    go_wp2
    go_ret2
    refine ⟨rfl, ⟨.slice A9 n9 c9, World.cell?_setCell_same _ _ _ z0, ?_, ?_⟩, ?_⟩
    · rw [World.frozen?_setCell]
      exact zf
    · have hd : dueO ⟨⟨on, id, kind, inh, ev, st⟩, maps, heard, at_, late, holds, by_, n⟩ = [t] := by
        unfold dueO
        rw [if_pos HWT.out]
        exact congrArg (fun z => [z]) HT.out
      rw [hd]
      exact R_fr (M := fun k => k = Bl) HO9.out (Fr.setCell (M := fun k => k = Bl) w9 ⟨Bl, 0, none⟩ (.slice A9 n9 c9) (.inl rfl)) (fun k hk e => by have := HBL.out.2.2.1; have : k = Bl := e; omega)
    · have f9 : Fr (fun k => k = Bl ∨ base ≤ k) wd w9 := ⟨HB9.out.os, HB9.out.tape, HB9.out.output, HG9.out.size, fun k _ hk => HB9.out.block k (by have : ¬ base ≤ k := fun h => hk (.inr h); omega)⟩
      exact ((Fr.of_below HBD.out).trans f9).trans (Fr.setCell w9 ⟨Bl, 0, none⟩ (.slice A9 n9 c9) (.inl (.inl rfl)))
end Go.Proofs.YtokebpeplopjhaaDoor.Mp
