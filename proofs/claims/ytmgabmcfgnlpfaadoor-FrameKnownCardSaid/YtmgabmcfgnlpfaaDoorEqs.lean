/- Two rows of eight bytes, two frames: are they the same? -/
import Derived.Test.YtmgabmcfgnlpfaaDoorRow
import Derived.ChangeKeysEq
import Derived.Test.YtmgabmcfgnlpfaaDoorWEqStruct
namespace Go.Proofs.YtmgabmcfgnlpfaaDoor.Frm
open Go.RowKit Go.Proofs.YtmgabmcfgnlpfaaDoorW.PrintWords Go.Proofs.YtmgabmcfgnlpfaaDoorW.PrintMore Go.Proofs.YtmgabmcfgnlpfaaDoorW.PrintLast

theorem part_u8 (W : World) (xs : Array Value) (j : Nat) (a : Int) (h : xs[j]? = some (.int .u8 a)) : (part 5 xs j).run Tryd.prog W = .ok (.int .u8 a) W :=
  run_part_plain W (by kernel_rfl) h
theorem eqItems_ints (W : World) (d : Nat) (xs ys : List Int) (hl : xs.length = ys.length) : ∀ (m s : Nat), s + m = xs.length →
    ∃ r, (Op.eqItems (d + 1) 5 1 (xs.map (Value.int .u8)).toArray (ys.map (Value.int .u8)).toArray (List.range' s m)).run Tryd.prog W = .ok r W ∧ (r = true ↔ xs.drop s = ys.drop s)
  | 0, s, h => by
    refine ⟨true, by simp [Op.eqItems], ?_⟩
    rw [List.drop_eq_nil_of_le (by omega), List.drop_eq_nil_of_le (by omega)]
    simp
  | m + 1, s, h => by
    have h1 : s < xs.length := by omega
    have h2 : s < ys.length := by omega
    obtain ⟨r, hr, hiff⟩ := eqItems_ints W d xs ys hl m (s + 1) (by omega)
    have p1 := part_u8 W (xs.map (Value.int .u8)).toArray s xs[s] (by simp [h1])
    have p2 := part_u8 W (ys.map (Value.int .u8)).toArray s ys[s] (by simp [h2])
    have p3 := run_equalIn_int (P := Tryd.prog) W d 5 .u8 .u8 xs[s] ys[s] Tryd.underlying5
    rw [List.range'_succ]
    by_cases he : xs[s] = ys[s]
    · rw [he] at p1 p3
      refine ⟨r, ?_, ?_⟩
      · simp only [Op.eqItems, Sem.run_bind, Nat.mul_one, p1, p2, p3, Result.andThen_ok, beq_self_eq_true, Bool.not_true, Bool.false_eq_true, if_false]
        exact hr
      · rw [hiff, List.drop_eq_getElem_cons h1, List.drop_eq_getElem_cons h2, he, List.cons.injEq]
        exact ⟨fun h => ⟨rfl, h⟩, fun h => h.2⟩
    · refine ⟨false, ?_, ?_⟩
      · simp only [Op.eqItems, Sem.run_bind, Nat.mul_one, p1, p2, p3, Result.andThen_ok, beq_eq_false_iff_ne.2 he, Bool.not_false, if_true, Sem.run_pure]
      · rw [List.drop_eq_getElem_cons h1, List.drop_eq_getElem_cons h2, List.cons.injEq]
        exact ⟨fun h => (nomatch h), fun h => absurd h.1 he⟩
theorem arr_eq (W : World) (d : Nat) (xs ys : List Int) (hx : xs.length = 8) (hy : ys.length = 8) :
    ∃ r, (Op.equalIn (d + 1 + 1) 23 (.agg (xs.map (Value.int .u8)).toArray) (.agg (ys.map (Value.int .u8)).toArray)).run Tryd.prog W = .ok r W ∧ (r = true ↔ xs = ys) := by
  obtain ⟨r, hr, hiff⟩ := eqItems_ints W d xs ys (by omega) 8 0 (by omega)
  obtain ⟨i, hi⟩ := info_of_underlying (P := Tryd.prog) Tryd.underlying5
  refine ⟨r, ?_, by simpa using hiff⟩
  rw [run_equalIn_array W (d + 1) _ _ Tryd.underlying23 hi, show Tryd.prog.cellsOf 5 = 1 by kernel_rfl, List.range_eq_range']
  exact hr
theorem fm_eq (W : World) (f g : Fm) (hf : f.d.length = 8) (hg : g.d.length = 8) :
    ∃ r, (Op.equalIn 10000 25 (.agg (Fm.cells f)) (.agg (Fm.cells g))).run Tryd.prog W = .ok r W ∧ (r = true ↔ f = g) := by
  obtain ⟨i, n, d, b⟩ := f
  obtain ⟨i', n', d', b'⟩ := g
  obtain ⟨x0, x1, x2, x3, x4, x5, x6, x7, rfl⟩ := eight hf
  obtain ⟨y0, y1, y2, y3, y4, y5, y6, y7, rfl⟩ := eight hg
  obtain ⟨r, hr, hiff⟩ := arr_eq W 9997 [x0, x1, x2, x3, x4, x5, x6, x7] [y0, y1, y2, y3, y4, y5, y6, y7] rfl rfl
  have hpa : ∀ (z0 z1 z2 z3 z4 z5 z6 z7 j m : Int) (c : Bool), (part 23 (Fm.cells ⟨j, m, [z0, z1, z2, z3, z4, z5, z6, z7], c⟩) 2).run Tryd.prog W = .ok (.agg ([z0, z1, z2, z3, z4, z5, z6, z7].map (Value.int .u8)).toArray) W := by
    intro z0 z1 z2 z3 z4 z5 z6 z7 j m c
    simp [part, Fm.cells]
  refine ⟨(i == i') && ((n == n') && (r && (b == b'))), ?_, ?_⟩
  · refine eqA_of (d := 9999) Tryd.underlying25 (by kernel_rfl) ?_
    refine eqf_cons rfl (a := .int .u16 i) (b := .int .u16 i') (run_part_plain W (by kernel_rfl) rfl) (run_part_plain W (by kernel_rfl) rfl) (run_equalIn_int W 9998 _ _ .u16 _ _ Tryd.underlying22) ?_
    refine eqf_cons rfl (a := .int .i64 n) (b := .int .i64 n') (run_part_plain W (by kernel_rfl) rfl) (run_part_plain W (by kernel_rfl) rfl) (run_equalIn_int W 9998 _ _ .i64 _ _ Tryd.underlying3) ?_
    refine eqf_cons rfl (hpa ..) (hpa ..) hr ?_
    exact eqf_last rfl (a := .bool b) (b := .bool b') (run_part_plain W (by kernel_rfl) rfl) (run_part_plain W (by kernel_rfl) rfl) (run_equalIn_bool W 9998 _ _ _ Tryd.underlying4)
  · simp only [Bool.and_eq_true, beq_iff_eq, hiff, Fm.mk.injEq]
theorem arr_dec (xs ys : List Int) (hx : xs.length = 8) (hy : ys.length = 8) :
    ∃ q : Bool, (q = true ↔ xs = ys) ∧ ∀ W, (Op.equalIn 10000 23 (.agg (xs.map (Value.int .u8)).toArray) (.agg (ys.map (Value.int .u8)).toArray)).run Tryd.prog W = .ok q W := by
  refine ⟨decide (xs = ys), by simp, fun W => ?_⟩
  obtain ⟨r, hr, hiff⟩ := arr_eq W 9998 xs ys hx hy
  rw [show decide (xs = ys) = r by cases r <;> simp_all]
  exact hr
theorem fm_dec (f g : Fm) (hf : f.d.length = 8) (hg : g.d.length = 8) :
    ∃ q : Bool, (q = true ↔ f = g) ∧ ∀ W, (Op.equalIn 10000 25 (.agg (Fm.cells f)) (.agg (Fm.cells g))).run Tryd.prog W = .ok q W := by
  obtain ⟨r, hr, hiff⟩ := fm_eq default f g hf hg
  refine ⟨r, hiff, fun W => ?_⟩
  obtain ⟨r', hr', hiff'⟩ := fm_eq W f g hf hg
  have : r = r' := by
    have : r = true ↔ r' = true := hiff.trans hiff'.symm
    cases r <;> cases r' <;> simp_all
  rw [this]
  exact hr'
end Go.Proofs.YtmgabmcfgnlpfaaDoor.Frm
