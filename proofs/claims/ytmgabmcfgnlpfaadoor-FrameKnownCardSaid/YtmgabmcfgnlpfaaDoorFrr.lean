/- frame.Right. -/
import Derived.Test.YtmgabmcfgnlpfaaDoorEqs
import Derived.StillTailTactics
import Derived.Laws.CopyRow
import Derived.Laws.CopyOwn
namespace Go.Proofs.YtmgabmcfgnlpfaaDoor.Frm
open Go.RowKit Go.Proofs.YtmgabmcfgnlpfaaDoorW.PrintWords Go.Proofs.YtmgabmcfgnlpfaaDoorW.PrintMore Go.Proofs.YtmgabmcfgnlpfaaDoorW.PrintLast

/-- The first n of eight bytes, zeros behind. -/
def cutZ (n : Nat) (d : List Int) : List Int := (List.range 8).map fun j => if j < n then d[j]?.getD 0 else 0
theorem cutZ_cells (n : Nat) (hn : n ≤ 8) (x0 x1 x2 x3 x4 x5 x6 x7 : Int) :
    (([0, 0, 0, 0, 0, 0, 0, 0] : List Int).map (Value.int .u8)).toArray.toList.take 0 ++ ([x0, x1, x2, x3, x4, x5, x6, x7].take n).map (Value.int .u8) ++ (([0, 0, 0, 0, 0, 0, 0, 0] : List Int).map (Value.int .u8)).toArray.toList.drop (0 + (([x0, x1, x2, x3, x4, x5, x6, x7].take n).map (Value.int .u8)).length) = (cutZ n [x0, x1, x2, x3, x4, x5, x6, x7]).map (Value.int .u8) := by
  match n, hn with
  | 0, _ => rfl
  | 1, _ => rfl
  | 2, _ => rfl
  | 3, _ => rfl
  | 4, _ => rfl
  | 5, _ => rfl
  | 6, _ => rfl
  | 7, _ => rfl
  | 8, _ => rfl
theorem cutZ_eq (i : Int) (n : Nat) (hn : n ≤ 8) (hi : i ≤ 2047) (d : List Int) (hd : d.length = 8) : cutZ n d = d ↔ Rt ⟨i, n, d, false⟩ := by
  constructor
  · intro h
    refine ⟨hi, by simp only; omega, by simp only; omega, fun j hj => ?_⟩
    by_cases hlt : j < n
    · exact .inr ⟨by simp only; omega, rfl⟩
    · refine .inl ?_
      have hc : (cutZ n d)[j]?.getD 0 = 0 := by
        unfold cutZ
        simp [hj, hlt]
      rwa [h] at hc
  · intro h
    apply List.ext_getElem?
    intro j
    unfold cutZ
    rw [List.getElem?_map]
    by_cases hj : j < 8
    · have h2 : j < d.length := by omega
      have h3 := h.2.2.2 j hj
      simp only [List.getElem?_eq_getElem h2, Option.getD_some] at h3
      rw [List.getElem?_range hj, List.getElem?_eq_getElem h2]
      simp only [Option.map_some, List.getElem?_eq_getElem h2, Option.getD_some]
      split
      · rfl
      · rcases h3 with h3 | ⟨h3, _⟩
        · rw [h3]
        · omega
    · rw [List.getElem?_eq_none (by simp; omega), List.getElem?_eq_none (by omega)]
      rfl
theorem zero_eq (i n : Int) (hi : i ≤ 2047) (h0 : 0 ≤ n) (hn : n ≤ 8) (d : List Int) (hd : d.length = 8) : [0, 0, 0, 0, 0, 0, 0, 0] = d ↔ Rt ⟨i, n, d, true⟩ := by
  constructor
  · rintro rfl
    have hc : ∀ i : Nat, i < 8 → ([0, 0, 0, 0, 0, 0, 0, 0] : List Int)[i]?.getD 0 = 0 := by decide
    exact ⟨hi, h0, hn, fun j hj => .inl (hc j hj)⟩
  · intro h
    apply List.ext_getElem
    · simp [hd]
    · intro j h1 h2
      have h3 := h.2.2.2 j (by omega)
      simp only [List.getElem?_eq_getElem h2, Option.getD_some] at h3
      have hc : ∀ i (h : i < 8), ([0, 0, 0, 0, 0, 0, 0, 0] : List Int)[i]'h = 0 := by decide
      rw [hc j (by omega)]
      rcases h3 with h3 | ⟨_, h3⟩
      · exact h3.symm
      · simp at h3
/-- The copy of a frame's first bytes into a new row of eight. -/
theorem copy_plain (W : World) (g : Nat) (i m : Int) (b : Bool) (n : Nat) (hn : n ≤ 8) (x0 x1 x2 x3 x4 x5 x6 x7 : Int) (h0 : W.heap[g]? = some (.cells (Fm.cells ⟨i, m, [x0, x1, x2, x3, x4, x5, x6, x7], b⟩) 25 (0, 0)))
    (h1 : W.heap[g + 1]? = some (.cells (([0, 0, 0, 0, 0, 0, 0, 0] : List Int).map (Value.int .u8)).toArray 23 (0, 0))) :
    ∃ W', (Builtin.copy_ #[36, 36] 3 #[.slice (some ⟨g + 1, 0, none⟩) n 8, .slice (some ⟨g, 2, none⟩) 8 8]).run Tryd.prog W = .ok (.int .i64 n) W' ∧
      W'.heap[g]? = some (.cells (Fm.cells ⟨i, m, [x0, x1, x2, x3, x4, x5, x6, x7], b⟩) 25 (0, 0)) ∧ W'.heap[g + 1]? = some (.cells ((cutZ n [x0, x1, x2, x3, x4, x5, x6, x7]).map (Value.int .u8)).toArray 23 (0, 0)) ∧ Below (g + 1) W W' := by
  have hlen : (([x0, x1, x2, x3, x4, x5, x6, x7].take n).map (Value.int .u8)).length = n := by simp; omega
  have hr := run_copy_row (P := Tryd.prog) W 36 36 3 5 (g + 1) 0 n 8 ⟨g, 2, none⟩ 8 8 _ 23 (([x0, x1, x2, x3, x4, x5, x6, x7].take n).map (Value.int .u8)) Tryd.underlying36 (by kernel_rfl) h1
    (by rw [hlen]; simp [Nat.min_def]; omega)
    (by
      intro j v hj
      rw [List.getElem?_map, List.getElem?_take] at hj
      split at hj
      · have h2 := blk_cell h0 (2 + j)
        rw [fm_len _ _ _ _ j (by simp; omega)] at h2
        rw [show (⟨g, 2, none⟩ : Addr).add j = ⟨g, 2 + j, none⟩ by simp [Addr.add], h2]
        rw [List.getElem?_eq_getElem (by simp; omega)] at hj ⊢
        simpa using hj
      · simp at hj)
    (by rw [hlen]; simp; omega)
    (by intro v hv; obtain ⟨x, _, rfl⟩ := List.mem_map.1 hv; rfl)
  rw [cutZ_cells n hn, hlen] at hr
  refine ⟨_, hr, ?_, ?_, ?_⟩
  · exact (setRow_other W (g + 1) g _ (by omega)).trans h0
  · exact setRow_heap W (g + 1) _ _ _ _ h1
  · exact below_setRow (Below.refl _ _) (Nat.le_refl _) _
set_option maxHeartbeats 2000000 in
set_option maxRecDepth 100000 in
theorem fright_any (i n x0 x1 x2 x3 x4 x5 x6 x7 : Int) (b : Bool) (w : World) :
    Calls Tryd.prog 11 #[.agg #[.int .u16 i, .int .i64 n, .int .u8 x0, .int .u8 x1, .int .u8 x2, .int .u8 x3, .int .u8 x4, .int .u8 x5, .int .u8 x6, .int .u8 x7, .bool b]] w fun e w' =>
      (e = .returned (.bool true) ∧ Rt ⟨i, n, [x0, x1, x2, x3, x4, x5, x6, x7], b⟩ ∨ e = .returned (.bool false) ∧ ¬ Rt ⟨i, n, [x0, x1, x2, x3, x4, x5, x6, x7], b⟩) ∧ Below w.heap.size w w' := by
  obtain ⟨R, hR⟩ : ∃ R, Rt ⟨i, n, [x0, x1, x2, x3, x4, x5, x6, x7], b⟩ = R := ⟨_, rfl⟩
  rw [hR]
  by_cases hh : i ≤ 2047 ∧ 0 ≤ n ∧ n ≤ 8
  · obtain ⟨h1, h2, h3⟩ := hh
    rcases b with _ | _
    · obtain ⟨m, rfl⟩ := Int.eq_ofNat_of_zero_le h2
      have hm : m ≤ 8 := by omega
      have hcopy := fun W g => copy_plain W g i m false m hm x0 x1 x2 x3 x4 x5 x6 x7
      have hcd := cutZ_eq i m hm h1 [x0, x1, x2, x3, x4, x5, x6, x7] rfl
      rw [hR] at hcd
      obtain ⟨y0, y1, y2, y3, y4, y5, y6, y7, hy⟩ := eight (d := cutZ m [x0, x1, x2, x3, x4, x5, x6, x7]) (by simp [cutZ])
      rw [hy] at hcd hcopy
      obtain ⟨q, hq, heq⟩ := arr_dec [y0, y1, y2, y3, y4, y5, y6, y7] [x0, x1, x2, x3, x4, x5, x6, x7] rfl rfl
      have heq2 : ∀ W, (Op.equalIn 10000 23 (.agg #[.int .u8 y0, .int .u8 y1, .int .u8 y2, .int .u8 y3, .int .u8 y4, .int .u8 y5, .int .u8 y6, .int .u8 y7]) (.agg #[.int .u8 x0, .int .u8 x1, .int .u8 x2, .int .u8 x3, .int .u8 x4, .int .u8 x5, .int .u8 x6, .int .u8 x7])).run Tryd.prog W = .ok q W := heq
      have HC := Aside0.mk hcopy
      have HQ := Aside0.mk (hq.trans hcd)
      clear hcopy hcd hy hq heq hR
      go_enter Tryd.func11, Tryd.ntmps11
      go_wp2
      have hb0 := two_new1 w (.cells (Fm.cells ⟨i, m, [x0, x1, x2, x3, x4, x5, x6, x7], false⟩) 25) (.cells (([0, 0, 0, 0, 0, 0, 0, 0] : List Int).map (Value.int .u8)).toArray 23) 0
      have hb1 := two_new2 w (.cells (Fm.cells ⟨i, m, [x0, x1, x2, x3, x4, x5, x6, x7], false⟩) 25) (.cells (([0, 0, 0, 0, 0, 0, 0, 0] : List Int).map (Value.int .u8)).toArray 23) 0
      have hbw := two_below w (.cells (Fm.cells ⟨i, m, [x0, x1, x2, x3, x4, x5, x6, x7], false⟩) 25) (.cells (([0, 0, 0, 0, 0, 0, 0, 0] : List Int).map (Value.int .u8)).toArray 23) 0
      change ((w.alloc (Obj.cells #[.int .u16 i, .int .i64 m, .int .u8 x0, .int .u8 x1, .int .u8 x2, .int .u8 x3, .int .u8 x4, .int .u8 x5, .int .u8 x6, .int .u8 x7, .bool false] 25)).alloc (Obj.cells #[.int .u8 0, .int .u8 0, .int .u8 0, .int .u8 0, .int .u8 0, .int .u8 0, .int .u8 0, .int .u8 0] 23)).heap[w.heap.size]? = _ at hb0
      change ((w.alloc (Obj.cells #[.int .u16 i, .int .i64 m, .int .u8 x0, .int .u8 x1, .int .u8 x2, .int .u8 x3, .int .u8 x4, .int .u8 x5, .int .u8 x6, .int .u8 x7, .bool false] 25)).alloc (Obj.cells #[.int .u8 0, .int .u8 0, .int .u8 0, .int .u8 0, .int .u8 0, .int .u8 0, .int .u8 0, .int .u8 0] 23)).heap[w.heap.size + 1]? = _ at hb1
      change Below w.heap.size w ((w.alloc (Obj.cells #[.int .u16 i, .int .i64 m, .int .u8 x0, .int .u8 x1, .int .u8 x2, .int .u8 x3, .int .u8 x4, .int .u8 x5, .int .u8 x6, .int .u8 x7, .bool false] 25)).alloc (Obj.cells #[.int .u8 0, .int .u8 0, .int .u8 0, .int .u8 0, .int .u8 0, .int .u8 0, .int .u8 0, .int .u8 0] 23)) at hbw
      generalize ((w.alloc (Obj.cells #[.int .u16 i, .int .i64 m, .int .u8 x0, .int .u8 x1, .int .u8 x2, .int .u8 x3, .int .u8 x4, .int .u8 x5, .int .u8 x6, .int .u8 x7, .bool false] 25)).alloc (Obj.cells #[.int .u8 0, .int .u8 0, .int .u8 0, .int .u8 0, .int .u8 0, .int .u8 0, .int .u8 0, .int .u8 0] 23)) = W at hb0 hb1 hbw ⊢
      obtain ⟨f0, f1, f2, f3, f4, f5, f6, f7, f8, f9, f10, f11⟩ := fm_at hb0
      have HB0 := Aside0.mk hb0
      have HB1 := Aside0.mk hb1
      have HBW := Aside0.mk hbw
      clear hb0 hb1 hbw
      obtain ⟨W3, hrun, hc0, hc1, hcb⟩ := HC.out W.drew w.heap.size HB0.out HB1.out
      obtain ⟨g0, g1, g2, g3, g4, g5, g6, g7, g8, g9, g10, g11⟩ := fm_at hc0
      have r0 : W3.cell? ⟨w.heap.size + 1, 0, none⟩ = some (.int .u8 y0) := blk_cell hc1 0
      have r1 : W3.cell? ⟨w.heap.size + 1, 1, none⟩ = some (.int .u8 y1) := blk_cell hc1 1
      have r2 : W3.cell? ⟨w.heap.size + 1, 2, none⟩ = some (.int .u8 y2) := blk_cell hc1 2
      have r3 : W3.cell? ⟨w.heap.size + 1, 3, none⟩ = some (.int .u8 y3) := blk_cell hc1 3
      have r4 : W3.cell? ⟨w.heap.size + 1, 4, none⟩ = some (.int .u8 y4) := blk_cell hc1 4
      have r5 : W3.cell? ⟨w.heap.size + 1, 5, none⟩ = some (.int .u8 y5) := blk_cell hc1 5
      have r6 : W3.cell? ⟨w.heap.size + 1, 6, none⟩ = some (.int .u8 y6) := blk_cell hc1 6
      have r7 : W3.cell? ⟨w.heap.size + 1, 7, none⟩ = some (.int .u8 y7) := blk_cell hc1 7
      have HW3 := Aside0.mk ((HBW.out.drew).trans (hcb.mono (Nat.le_succ _)))
      clear hc0 hc1 hcb HC
      go_still_tail 5, (by kernel_rfl)
      change wpList _ _ _ _ _ W.drew
      generalize W.drew = W2 at hrun
      go_wp2
      go_ret
      refine ⟨?_, HW3.out⟩
      rcases q with _ | _
      · exact .inr ⟨rfl, fun h => by have := HQ.out.2 h; simp at this⟩
      · exact .inl ⟨rfl, HQ.out.1 rfl⟩
    · have hcd := zero_eq i n h1 h2 h3 [x0, x1, x2, x3, x4, x5, x6, x7] rfl
      rw [hR] at hcd
      obtain ⟨q, hq, heq⟩ := arr_dec [0, 0, 0, 0, 0, 0, 0, 0] [x0, x1, x2, x3, x4, x5, x6, x7] rfl rfl
      have heq2 : ∀ W, (Op.equalIn 10000 23 (.agg #[.int .u8 0, .int .u8 0, .int .u8 0, .int .u8 0, .int .u8 0, .int .u8 0, .int .u8 0, .int .u8 0]) (.agg #[.int .u8 x0, .int .u8 x1, .int .u8 x2, .int .u8 x3, .int .u8 x4, .int .u8 x5, .int .u8 x6, .int .u8 x7])).run Tryd.prog W = .ok q W := heq
      have HQ := Aside0.mk (hq.trans hcd)
      clear hcd hq heq hR
      go_enter Tryd.func11, Tryd.ntmps11
      go_wp2
      go_ret
      refine ⟨?_, two_below w _ _ 0⟩
      rcases q with _ | _
      · exact .inr ⟨rfl, fun h => by have := HQ.out.2 h; simp at this⟩
      · exact .inl ⟨rfl, HQ.out.1 rfl⟩
  · have HR := Aside0.mk (show ¬ R by
      rw [← hR]
      exact fun h => hh ⟨h.1, h.2.1, h.2.2.1⟩)
    clear hR
    go_enter Tryd.func11, Tryd.ntmps11
    go_wp2
    all_goals
      go_ret
      exact ⟨.inr ⟨rfl, HR.out⟩, below_alloc (Below.refl _ _) _⟩
end Go.Proofs.YtmgabmcfgnlpfaaDoor.Frm
