/- Frames: Right, Before, of both (printed by gen_ba.py out of my texts of the frame). -/
import Derived.Sort.Grow
import Derived.Test.YtnjmohdfnicpdaaChecked
import Derived.Lib.Strings
import Derived.Lib.Slices
import Derived.Lib.Walk
import Derived.Lib.Bytealg
import Derived.WalkKit
import Derived.Deep.QuietTactic
import Derived.BigQuiet
import Derived.Test.YtnjmohdfnicpdaaWWords
import Derived.Test.YtnjmohdfnicpdaaWMore
import Derived.Test.YtnjmohdfnicpdaaWLast
import Derived.Laws.IdiomCopy
import Derived.RangeFuncRecord
import Derived.Below
import Derived.OwnWalkIn
import Derived.ChangeKeysEq
import Derived.Test.YtnjmohdfnicpdaaWEqStruct
import Derived.StillTailTactics
import Derived.Laws.CopyRow
import Derived.Laws.CopyOwn
namespace Go.Proofs.Ytnjmohdfnicpdaa.Frm
open Go.RowKit Go.Proofs.YtnjmohdfnicpdaaW.PrintWords Go.Proofs.YtnjmohdfnicpdaaW.PrintMore Go.Proofs.YtnjmohdfnicpdaaW.PrintLast

structure Fm where
  id : Int
  len : Int
  d : List Int
  rem : Bool
def Fm.cells (f : Fm) : Array Value := #[.int .u16 f.id, .int .i64 f.len] ++ (f.d.map (Value.int .u8)).toArray ++ #[.bool f.rem]
def fm0 : Fm := ⟨0, 0, [0, 0, 0, 0, 0, 0, 0, 0], false⟩
structure Wf (f : Fm) : Prop where
  dl : f.d.length = 8
  db : ∀ x ∈ f.d, 0 ≤ x ∧ x < 256
  i0 : 0 ≤ f.id
/-- Is a frame right? -/
def Rt (f : Fm) : Prop := f.id ≤ 2047 ∧ 0 ≤ f.len ∧ f.len ≤ 8 ∧ ∀ i : Nat, i < 8 → f.d[i]?.getD 0 = 0 ∨ ((i : Int) < f.len ∧ f.rem = false)

/-- An array into which a list is put from a place on. -/
def putAt : Array Value → Nat → List Value → Array Value
  | cs, _, [] => cs
  | cs, o, v :: r => putAt (cs.setIfInBounds o v) (o + 1) r
theorem heap_setCells {g : Nat} {t : TypeId} : ∀ (vs : List Value) (o : Nat) (w : World) (cs : Array Value), w.heap[g]? = some (.cells cs t (0, 0)) → (w.setCells g o vs).heap[g]? = some (.cells (putAt cs o vs) t (0, 0))
  | [], _, _, _, h => h
  | v :: r, o, w, cs, h => heap_setCells r (o + 1) (w.setCell ⟨g, o, none⟩ v) (cs.setIfInBounds o v) (blk_put h o v rfl)
theorem cells11 (W : World) (g : Nat) (v0 v1 v2 v3 v4 v5 v6 v7 v8 v9 v10 : Value) :
    ((((((((((W.setCell ⟨g, 0, none⟩ v0).setCell ⟨g, 1, none⟩ v1).setCell ⟨g, 2, none⟩ v2).setCell ⟨g, 3, none⟩ v3).setCell ⟨g, 4, none⟩ v4).setCell ⟨g, 5, none⟩ v5).setCell ⟨g, 6, none⟩ v6).setCell ⟨g, 7, none⟩ v7).setCell ⟨g, 8, none⟩ v8).setCell ⟨g, 9, none⟩ v9).setCell ⟨g, 10, none⟩ v10 = W.setCells g 0 [v0, v1, v2, v3, v4, v5, v6, v7, v8, v9, v10] := rfl
theorem putAt11 (u0 u1 u2 u3 u4 u5 u6 u7 u8 u9 u10 v0 v1 v2 v3 v4 v5 v6 v7 v8 v9 v10 : Value) : putAt #[u0, u1, u2, u3, u4, u5, u6, u7, u8, u9, u10] 0 [v0, v1, v2, v3, v4, v5, v6, v7, v8, v9, v10] = #[v0, v1, v2, v3, v4, v5, v6, v7, v8, v9, v10] := by simp [putAt]
theorem row11 {W : World} {g : Nat} {t : TypeId} {u0 u1 u2 u3 u4 u5 u6 u7 u8 u9 u10 : Value} (h : W.heap[g]? = some (.cells #[u0, u1, u2, u3, u4, u5, u6, u7, u8, u9, u10] t (0, 0))) (v0 v1 v2 v3 v4 v5 v6 v7 v8 v9 v10 : Value) :
    (W.setCells g 0 [v0, v1, v2, v3, v4, v5, v6, v7, v8, v9, v10]).heap[g]? = some (.cells #[v0, v1, v2, v3, v4, v5, v6, v7, v8, v9, v10] t (0, 0)) := by
  rw [← putAt11 u0 u1 u2 u3 u4 u5 u6 u7 u8 u9 u10]
  exact heap_setCells _ _ _ _ h
theorem below_cells {B g : Nat} (hg : B ≤ g) : ∀ (vs : List Value) (o : Nat) {a w : World}, Below B a w → Below B a (w.setCells g o vs)
  | [], _, _, _, h => h
  | v :: r, o, _, _, h => below_cells hg r (o + 1) (h.setCell (p := ⟨g, o, none⟩) hg v)
theorem alloc_drewN (w : World) (o : Obj) (m : Nat) : (w.alloc o).drewN m = (w.drewN m).alloc o := rfl
theorem below_drewN {B : Nat} {a w : World} (h : Below B a w) (m : Nat) : Below B a (w.drewN m) := ⟨h.os, h.tape, h.output, h.size, h.block⟩
theorem drewN_new (w : World) (o : Obj) (m : Nat) : ((w.alloc o).drewN m).heap[w.heap.size]? = some o := World.alloc_heap_new w o
/-- A new row of eleven cells, a draw, a store over the whole row. -/
theorem new_row (w : World) (t : TypeId) (m : Nat) (u0 u1 u2 u3 u4 u5 u6 u7 u8 u9 u10 v0 v1 v2 v3 v4 v5 v6 v7 v8 v9 v10 : Value) :
    (((w.alloc (.cells #[u0, u1, u2, u3, u4, u5, u6, u7, u8, u9, u10] t)).drewN m).setCells w.heap.size 0 [v0, v1, v2, v3, v4, v5, v6, v7, v8, v9, v10]).heap[w.heap.size]? = some (.cells #[v0, v1, v2, v3, v4, v5, v6, v7, v8, v9, v10] t (0, 0)) := by
  have h := drewN_new w (.cells #[u0, u1, u2, u3, u4, u5, u6, u7, u8, u9, u10] t) m
  generalize (w.alloc (.cells #[u0, u1, u2, u3, u4, u5, u6, u7, u8, u9, u10] t)).drewN m = W at h
  exact row11 h v0 v1 v2 v3 v4 v5 v6 v7 v8 v9 v10
theorem new_below (w : World) (o : Obj) (m : Nat) (vs : List Value) : Below w.heap.size w (((w.alloc o).drewN m).setCells w.heap.size 0 vs) :=
  below_cells (Nat.le_refl _) _ _ (below_drewN (below_alloc (Below.refl _ _) _) m)
theorem two_new1 (w : World) (o1 o2 : Obj) (m : Nat) : (((w.alloc o1).drewN m).alloc o2).heap[w.heap.size]? = some o1 := blk_alloc (drewN_new w o1 m) o2
theorem two_new2 (w : World) (o1 o2 : Obj) (m : Nat) : (((w.alloc o1).drewN m).alloc o2).heap[w.heap.size + 1]? = some o2 := by
  have h := heap_alloc_new ((w.alloc o1).drewN m) o2
  have hs : ((w.alloc o1).drewN m).heap.size = w.heap.size + 1 := by
    show (w.alloc o1).heap.size = _
    simp
  rwa [hs] at h
theorem two_below (w : World) (o1 o2 : Obj) (m : Nat) : Below w.heap.size w (((w.alloc o1).drewN m).alloc o2) :=
  (below_drewN (below_alloc (Below.refl _ _) _) m).alloc (by show _ ≤ (w.alloc o1).heap.size; simp) _
theorem fm_at {W : World} {g : Nat} {t : TypeId} {i n x0 x1 x2 x3 x4 x5 x6 x7 : Int} {b : Bool} (h : W.heap[g]? = some (.cells (Fm.cells ⟨i, n, [x0, x1, x2, x3, x4, x5, x6, x7], b⟩) t (0, 0))) :
    W.cell? ⟨g, 0, none⟩ = some (.int .u16 i) ∧ W.cell? ⟨g, 1, none⟩ = some (.int .i64 n) ∧ W.cell? ⟨g, 2, none⟩ = some (.int .u8 x0) ∧ W.cell? ⟨g, 3, none⟩ = some (.int .u8 x1) ∧ W.cell? ⟨g, 4, none⟩ = some (.int .u8 x2) ∧ W.cell? ⟨g, 5, none⟩ = some (.int .u8 x3) ∧ W.cell? ⟨g, 6, none⟩ = some (.int .u8 x4) ∧ W.cell? ⟨g, 7, none⟩ = some (.int .u8 x5) ∧ W.cell? ⟨g, 8, none⟩ = some (.int .u8 x6) ∧ W.cell? ⟨g, 9, none⟩ = some (.int .u8 x7) ∧ W.cell? ⟨g, 10, none⟩ = some (.bool b) ∧ ∀ j, W.frozen? ⟨g, j, none⟩ = false :=
  ⟨blk_cell h 0, blk_cell h 1, blk_cell h 2, blk_cell h 3, blk_cell h 4, blk_cell h 5, blk_cell h 6, blk_cell h 7, blk_cell h 8, blk_cell h 9, blk_cell h 10, fun j => blk_frozen h j⟩
theorem row_fm {W : World} {g : Nat} {t : TypeId} {i n x0 x1 x2 x3 x4 x5 x6 x7 : Int} {b : Bool} (h : W.heap[g]? = some (.cells (Fm.cells ⟨i, n, [x0, x1, x2, x3, x4, x5, x6, x7], b⟩) t (0, 0))) (v0 v1 v2 v3 v4 v5 v6 v7 v8 v9 v10 : Value) :
    (W.setCells g 0 [v0, v1, v2, v3, v4, v5, v6, v7, v8, v9, v10]).heap[g]? = some (.cells #[v0, v1, v2, v3, v4, v5, v6, v7, v8, v9, v10] t (0, 0)) :=
  row11 h v0 v1 v2 v3 v4 v5 v6 v7 v8 v9 v10
theorem eight {d : List Int} (h : d.length = 8) : ∃ x0 x1 x2 x3 x4 x5 x6 x7, d = [x0, x1, x2, x3, x4, x5, x6, x7] := by
  match d, h with
  | [x0, x1, x2, x3, x4, x5, x6, x7], _ => exact ⟨x0, x1, x2, x3, x4, x5, x6, x7, rfl⟩
theorem fm_len (i n : Int) (d : List Int) (b : Bool) (k : Nat) (h : k < d.length) : (Fm.cells ⟨i, n, d, b⟩)[2 + k]? = some (.int .u8 (d[k]?.getD 0)) := by
  rw [List.getElem?_eq_getElem h]
  simp only [Fm.cells]
  rw [Array.getElem?_append_left (by simp; omega), Array.getElem?_append_right (by simp)]
  simp [h]

theorem part_u8 (W : World) (xs : Array Value) (j : Nat) (a : Int) (h : xs[j]? = some (.int .u8 a)) : (part 5 xs j).run Try.prog W = .ok (.int .u8 a) W :=
  run_part_plain W (by kernel_rfl) h
theorem eqItems_ints (W : World) (d : Nat) (xs ys : List Int) (hl : xs.length = ys.length) : ∀ (m s : Nat), s + m = xs.length →
    ∃ r, (Op.eqItems (d + 1) 5 1 (xs.map (Value.int .u8)).toArray (ys.map (Value.int .u8)).toArray (List.range' s m)).run Try.prog W = .ok r W ∧ (r = true ↔ xs.drop s = ys.drop s)
  | 0, s, h => by
    refine ⟨true, by simp [Op.eqItems], ?_⟩
    rw [List.drop_eq_nil_of_le (by omega), List.drop_eq_nil_of_le (by omega)]
    simp
  | m + 1, s, h => by
    have h1 : s < xs.length := by omega
    have h2 : s < ys.length := by omega
    obtain ⟨r, hr, hiff⟩ := eqItems_ints W d xs ys hl m (s + 1) (by omega)
    have p1 := part_u8 W (xs.map (Value.int .u8)).toArray s xs[s] (by simp [h1])
    have p2 := part_u8 W (ys.map (Value.int .u8)).toArray s ys[s] (by simp [h2])
    have p3 := run_equalIn_int (P := Try.prog) W d 5 .u8 .u8 xs[s] ys[s] Try.underlying5
    rw [List.range'_succ]
    by_cases he : xs[s] = ys[s]
    · rw [he] at p1 p3
      refine ⟨r, ?_, ?_⟩
      · simp only [Op.eqItems, Sem.run_bind, Nat.mul_one, p1, p2, p3, Result.andThen_ok, beq_self_eq_true, Bool.not_true, Bool.false_eq_true, if_false]
        exact hr
      · rw [hiff, List.drop_eq_getElem_cons h1, List.drop_eq_getElem_cons h2, he, List.cons.injEq]
        exact ⟨fun h => ⟨rfl, h⟩, fun h => h.2⟩
    · refine ⟨false, ?_, ?_⟩
      · simp only [Op.eqItems, Sem.run_bind, Nat.mul_one, p1, p2, p3, Result.andThen_ok, beq_eq_false_iff_ne.2 he, Bool.not_false, if_true, Sem.run_pure]
      · rw [List.drop_eq_getElem_cons h1, List.drop_eq_getElem_cons h2, List.cons.injEq]
        exact ⟨fun h => (nomatch h), fun h => absurd h.1 he⟩
theorem arr_eq (W : World) (d : Nat) (xs ys : List Int) (hx : xs.length = 8) (hy : ys.length = 8) :
    ∃ r, (Op.equalIn (d + 1 + 1) 30 (.agg (xs.map (Value.int .u8)).toArray) (.agg (ys.map (Value.int .u8)).toArray)).run Try.prog W = .ok r W ∧ (r = true ↔ xs = ys) := by
  obtain ⟨r, hr, hiff⟩ := eqItems_ints W d xs ys (by omega) 8 0 (by omega)
  obtain ⟨i, hi⟩ := info_of_underlying (P := Try.prog) Try.underlying5
  refine ⟨r, ?_, by simpa using hiff⟩
  rw [run_equalIn_array W (d + 1) _ _ Try.underlying30 hi, show Try.prog.cellsOf 5 = 1 by kernel_rfl, List.range_eq_range']
  exact hr
theorem fm_eq (W : World) (f g : Fm) (hf : f.d.length = 8) (hg : g.d.length = 8) :
    ∃ r, (Op.equalIn 10000 32 (.agg (Fm.cells f)) (.agg (Fm.cells g))).run Try.prog W = .ok r W ∧ (r = true ↔ f = g) := by
  obtain ⟨i, n, d, b⟩ := f
  obtain ⟨i', n', d', b'⟩ := g
  obtain ⟨x0, x1, x2, x3, x4, x5, x6, x7, rfl⟩ := eight hf
  obtain ⟨y0, y1, y2, y3, y4, y5, y6, y7, rfl⟩ := eight hg
  obtain ⟨r, hr, hiff⟩ := arr_eq W 9997 [x0, x1, x2, x3, x4, x5, x6, x7] [y0, y1, y2, y3, y4, y5, y6, y7] rfl rfl
  have hpa : ∀ (z0 z1 z2 z3 z4 z5 z6 z7 j m : Int) (c : Bool), (part 30 (Fm.cells ⟨j, m, [z0, z1, z2, z3, z4, z5, z6, z7], c⟩) 2).run Try.prog W = .ok (.agg ([z0, z1, z2, z3, z4, z5, z6, z7].map (Value.int .u8)).toArray) W := by
    intro z0 z1 z2 z3 z4 z5 z6 z7 j m c
    simp [part, Fm.cells]
  refine ⟨(i == i') && ((n == n') && (r && (b == b'))), ?_, ?_⟩
  · refine eqA_of (d := 9999) Try.underlying32 (by kernel_rfl) ?_
    refine eqf_cons rfl (a := .int .u16 i) (b := .int .u16 i') (run_part_plain W (by kernel_rfl) rfl) (run_part_plain W (by kernel_rfl) rfl) (run_equalIn_int W 9998 _ _ .u16 _ _ Try.underlying29) ?_
    refine eqf_cons rfl (a := .int .i64 n) (b := .int .i64 n') (run_part_plain W (by kernel_rfl) rfl) (run_part_plain W (by kernel_rfl) rfl) (run_equalIn_int W 9998 _ _ .i64 _ _ Try.underlying3) ?_
    refine eqf_cons rfl (hpa ..) (hpa ..) hr ?_
    exact eqf_last rfl (a := .bool b) (b := .bool b') (run_part_plain W (by kernel_rfl) rfl) (run_part_plain W (by kernel_rfl) rfl) (run_equalIn_bool W 9998 _ _ _ Try.underlying4)
  · simp only [Bool.and_eq_true, beq_iff_eq, hiff, Fm.mk.injEq]
theorem arr_dec (xs ys : List Int) (hx : xs.length = 8) (hy : ys.length = 8) :
    ∃ q : Bool, (q = true ↔ xs = ys) ∧ ∀ W, (Op.equalIn 10000 30 (.agg (xs.map (Value.int .u8)).toArray) (.agg (ys.map (Value.int .u8)).toArray)).run Try.prog W = .ok q W := by
  refine ⟨decide (xs = ys), by simp, fun W => ?_⟩
  obtain ⟨r, hr, hiff⟩ := arr_eq W 9998 xs ys hx hy
  rw [show decide (xs = ys) = r by cases r <;> simp_all]
  exact hr
theorem fm_dec (f g : Fm) (hf : f.d.length = 8) (hg : g.d.length = 8) :
    ∃ q : Bool, (q = true ↔ f = g) ∧ ∀ W, (Op.equalIn 10000 32 (.agg (Fm.cells f)) (.agg (Fm.cells g))).run Try.prog W = .ok q W := by
  obtain ⟨r, hr, hiff⟩ := fm_eq default f g hf hg
  refine ⟨r, hiff, fun W => ?_⟩
  obtain ⟨r', hr', hiff'⟩ := fm_eq W f g hf hg
  have : r = r' := by
    have : r = true ↔ r' = true := hiff.trans hiff'.symm
    cases r <;> cases r' <;> simp_all
  rw [this]
  exact hr'

/-- The first n of eight bytes, zeros behind. -/
def cutZ (n : Nat) (d : List Int) : List Int := (List.range 8).map fun j => if j < n then d[j]?.getD 0 else 0
theorem cutZ_cells (n : Nat) (hn : n ≤ 8) (x0 x1 x2 x3 x4 x5 x6 x7 : Int) :
    (([0, 0, 0, 0, 0, 0, 0, 0] : List Int).map (Value.int .u8)).toArray.toList.take 0 ++ ([x0, x1, x2, x3, x4, x5, x6, x7].take n).map (Value.int .u8) ++ (([0, 0, 0, 0, 0, 0, 0, 0] : List Int).map (Value.int .u8)).toArray.toList.drop (0 + (([x0, x1, x2, x3, x4, x5, x6, x7].take n).map (Value.int .u8)).length) = (cutZ n [x0, x1, x2, x3, x4, x5, x6, x7]).map (Value.int .u8) := by
  match n, hn with
  | 0, _ => rfl
  | 1, _ => rfl
  | 2, _ => rfl
  | 3, _ => rfl
  | 4, _ => rfl
  | 5, _ => rfl
  | 6, _ => rfl
  | 7, _ => rfl
  | 8, _ => rfl
theorem cutZ_eq (i : Int) (n : Nat) (hn : n ≤ 8) (hi : i ≤ 2047) (d : List Int) (hd : d.length = 8) : cutZ n d = d ↔ Rt ⟨i, n, d, false⟩ := by
  constructor
  · intro h
    refine ⟨hi, by simp only; omega, by simp only; omega, fun j hj => ?_⟩
    by_cases hlt : j < n
    · exact .inr ⟨by simp only; omega, rfl⟩
    · refine .inl ?_
      have hc : (cutZ n d)[j]?.getD 0 = 0 := by
        unfold cutZ
        simp [hj, hlt]
      rwa [h] at hc
  · intro h
    apply List.ext_getElem?
    intro j
    unfold cutZ
    rw [List.getElem?_map]
    by_cases hj : j < 8
    · have h2 : j < d.length := by omega
      have h3 := h.2.2.2 j hj
      simp only [List.getElem?_eq_getElem h2, Option.getD_some] at h3
      rw [List.getElem?_range hj, List.getElem?_eq_getElem h2]
      simp only [Option.map_some, List.getElem?_eq_getElem h2, Option.getD_some]
      split
      · rfl
      · rcases h3 with h3 | ⟨h3, _⟩
        · rw [h3]
        · omega
    · rw [List.getElem?_eq_none (by simp; omega), List.getElem?_eq_none (by omega)]
      rfl
theorem zero_eq (i n : Int) (hi : i ≤ 2047) (h0 : 0 ≤ n) (hn : n ≤ 8) (d : List Int) (hd : d.length = 8) : [0, 0, 0, 0, 0, 0, 0, 0] = d ↔ Rt ⟨i, n, d, true⟩ := by
  constructor
  · rintro rfl
    have hc : ∀ i : Nat, i < 8 → ([0, 0, 0, 0, 0, 0, 0, 0] : List Int)[i]?.getD 0 = 0 := by decide
    exact ⟨hi, h0, hn, fun j hj => .inl (hc j hj)⟩
  · intro h
    apply List.ext_getElem
    · simp [hd]
    · intro j h1 h2
      have h3 := h.2.2.2 j (by omega)
      simp only [List.getElem?_eq_getElem h2, Option.getD_some] at h3
      have hc : ∀ i (h : i < 8), ([0, 0, 0, 0, 0, 0, 0, 0] : List Int)[i]'h = 0 := by decide
      rw [hc j (by omega)]
      rcases h3 with h3 | ⟨_, h3⟩
      · exact h3.symm
      · simp at h3
/-- The copy of a frame's first bytes into a new row of eight. -/
theorem copy_plain (W : World) (g : Nat) (i m : Int) (b : Bool) (n : Nat) (hn : n ≤ 8) (x0 x1 x2 x3 x4 x5 x6 x7 : Int) (h0 : W.heap[g]? = some (.cells (Fm.cells ⟨i, m, [x0, x1, x2, x3, x4, x5, x6, x7], b⟩) 32 (0, 0)))
    (h1 : W.heap[g + 1]? = some (.cells (([0, 0, 0, 0, 0, 0, 0, 0] : List Int).map (Value.int .u8)).toArray 30 (0, 0))) :
    ∃ W', (Builtin.copy_ #[77, 77] 3 #[.slice (some ⟨g + 1, 0, none⟩) n 8, .slice (some ⟨g, 2, none⟩) 8 8]).run Try.prog W = .ok (.int .i64 n) W' ∧
      W'.heap[g]? = some (.cells (Fm.cells ⟨i, m, [x0, x1, x2, x3, x4, x5, x6, x7], b⟩) 32 (0, 0)) ∧ W'.heap[g + 1]? = some (.cells ((cutZ n [x0, x1, x2, x3, x4, x5, x6, x7]).map (Value.int .u8)).toArray 30 (0, 0)) ∧ Below (g + 1) W W' := by
  have hlen : (([x0, x1, x2, x3, x4, x5, x6, x7].take n).map (Value.int .u8)).length = n := by simp; omega
  have hr := run_copy_row (P := Try.prog) W 77 77 3 5 (g + 1) 0 n 8 ⟨g, 2, none⟩ 8 8 _ 30 (([x0, x1, x2, x3, x4, x5, x6, x7].take n).map (Value.int .u8)) Try.underlying77 (by kernel_rfl) h1
    (by rw [hlen]; simp [Nat.min_def]; omega)
    (by
      intro j v hj
      rw [List.getElem?_map, List.getElem?_take] at hj
      split at hj
      · have h2 := blk_cell h0 (2 + j)
        rw [fm_len _ _ _ _ j (by simp; omega)] at h2
        rw [show (⟨g, 2, none⟩ : Addr).add j = ⟨g, 2 + j, none⟩ by simp [Addr.add], h2]
        rw [List.getElem?_eq_getElem (by simp; omega)] at hj ⊢
        simpa using hj
      · simp at hj)
    (by rw [hlen]; simp; omega)
    (by intro v hv; obtain ⟨x, _, rfl⟩ := List.mem_map.1 hv; rfl)
  rw [cutZ_cells n hn, hlen] at hr
  refine ⟨_, hr, ?_, ?_, ?_⟩
  · exact (setRow_other W (g + 1) g _ (by omega)).trans h0
  · exact setRow_heap W (g + 1) _ _ _ _ h1
  · exact below_setRow (Below.refl _ _) (Nat.le_refl _) _
set_option maxHeartbeats 2000000 in
set_option maxRecDepth 100000 in
theorem fright_any (i n x0 x1 x2 x3 x4 x5 x6 x7 : Int) (b : Bool) (w : World) :
    Calls Try.prog 20 #[.agg #[.int .u16 i, .int .i64 n, .int .u8 x0, .int .u8 x1, .int .u8 x2, .int .u8 x3, .int .u8 x4, .int .u8 x5, .int .u8 x6, .int .u8 x7, .bool b]] w fun e w' =>
      (e = .returned (.bool true) ∧ Rt ⟨i, n, [x0, x1, x2, x3, x4, x5, x6, x7], b⟩ ∨ e = .returned (.bool false) ∧ ¬ Rt ⟨i, n, [x0, x1, x2, x3, x4, x5, x6, x7], b⟩) ∧ Below w.heap.size w w' := by
  obtain ⟨R, hR⟩ : ∃ R, Rt ⟨i, n, [x0, x1, x2, x3, x4, x5, x6, x7], b⟩ = R := ⟨_, rfl⟩
  rw [hR]
  by_cases hh : i ≤ 2047 ∧ 0 ≤ n ∧ n ≤ 8
  · obtain ⟨h1, h2, h3⟩ := hh
    rcases b with _ | _
    · obtain ⟨m, rfl⟩ := Int.eq_ofNat_of_zero_le h2
      have hm : m ≤ 8 := by omega
      have hcopy := fun W g => copy_plain W g i m false m hm x0 x1 x2 x3 x4 x5 x6 x7
      have hcd := cutZ_eq i m hm h1 [x0, x1, x2, x3, x4, x5, x6, x7] rfl
      rw [hR] at hcd
      obtain ⟨y0, y1, y2, y3, y4, y5, y6, y7, hy⟩ := eight (d := cutZ m [x0, x1, x2, x3, x4, x5, x6, x7]) (by simp [cutZ])
      rw [hy] at hcd hcopy
      obtain ⟨q, hq, heq⟩ := arr_dec [y0, y1, y2, y3, y4, y5, y6, y7] [x0, x1, x2, x3, x4, x5, x6, x7] rfl rfl
      have heq2 : ∀ W, (Op.equalIn 10000 30 (.agg #[.int .u8 y0, .int .u8 y1, .int .u8 y2, .int .u8 y3, .int .u8 y4, .int .u8 y5, .int .u8 y6, .int .u8 y7]) (.agg #[.int .u8 x0, .int .u8 x1, .int .u8 x2, .int .u8 x3, .int .u8 x4, .int .u8 x5, .int .u8 x6, .int .u8 x7])).run Try.prog W = .ok q W := heq
      have HC := Aside0.mk hcopy
      have HQ := Aside0.mk (hq.trans hcd)
      clear hcopy hcd hy hq heq hR
      go_enter Try.func20, Try.ntmps20
      go_wp2
      have hb0 := two_new1 w (.cells (Fm.cells ⟨i, m, [x0, x1, x2, x3, x4, x5, x6, x7], false⟩) 32) (.cells (([0, 0, 0, 0, 0, 0, 0, 0] : List Int).map (Value.int .u8)).toArray 30) 0
      have hb1 := two_new2 w (.cells (Fm.cells ⟨i, m, [x0, x1, x2, x3, x4, x5, x6, x7], false⟩) 32) (.cells (([0, 0, 0, 0, 0, 0, 0, 0] : List Int).map (Value.int .u8)).toArray 30) 0
      have hbw := two_below w (.cells (Fm.cells ⟨i, m, [x0, x1, x2, x3, x4, x5, x6, x7], false⟩) 32) (.cells (([0, 0, 0, 0, 0, 0, 0, 0] : List Int).map (Value.int .u8)).toArray 30) 0
      change ((w.alloc (Obj.cells #[.int .u16 i, .int .i64 m, .int .u8 x0, .int .u8 x1, .int .u8 x2, .int .u8 x3, .int .u8 x4, .int .u8 x5, .int .u8 x6, .int .u8 x7, .bool false] 32)).alloc (Obj.cells #[.int .u8 0, .int .u8 0, .int .u8 0, .int .u8 0, .int .u8 0, .int .u8 0, .int .u8 0, .int .u8 0] 30)).heap[w.heap.size]? = _ at hb0
      change ((w.alloc (Obj.cells #[.int .u16 i, .int .i64 m, .int .u8 x0, .int .u8 x1, .int .u8 x2, .int .u8 x3, .int .u8 x4, .int .u8 x5, .int .u8 x6, .int .u8 x7, .bool false] 32)).alloc (Obj.cells #[.int .u8 0, .int .u8 0, .int .u8 0, .int .u8 0, .int .u8 0, .int .u8 0, .int .u8 0, .int .u8 0] 30)).heap[w.heap.size + 1]? = _ at hb1
      change Below w.heap.size w ((w.alloc (Obj.cells #[.int .u16 i, .int .i64 m, .int .u8 x0, .int .u8 x1, .int .u8 x2, .int .u8 x3, .int .u8 x4, .int .u8 x5, .int .u8 x6, .int .u8 x7, .bool false] 32)).alloc (Obj.cells #[.int .u8 0, .int .u8 0, .int .u8 0, .int .u8 0, .int .u8 0, .int .u8 0, .int .u8 0, .int .u8 0] 30)) at hbw
      generalize ((w.alloc (Obj.cells #[.int .u16 i, .int .i64 m, .int .u8 x0, .int .u8 x1, .int .u8 x2, .int .u8 x3, .int .u8 x4, .int .u8 x5, .int .u8 x6, .int .u8 x7, .bool false] 32)).alloc (Obj.cells #[.int .u8 0, .int .u8 0, .int .u8 0, .int .u8 0, .int .u8 0, .int .u8 0, .int .u8 0, .int .u8 0] 30)) = W at hb0 hb1 hbw ⊢
      obtain ⟨f0, f1, f2, f3, f4, f5, f6, f7, f8, f9, f10, f11⟩ := fm_at hb0
      have HB0 := Aside0.mk hb0
      have HB1 := Aside0.mk hb1
      have HBW := Aside0.mk hbw
      clear hb0 hb1 hbw
      obtain ⟨W3, hrun, hc0, hc1, hcb⟩ := HC.out W.drew w.heap.size HB0.out HB1.out
      obtain ⟨g0, g1, g2, g3, g4, g5, g6, g7, g8, g9, g10, g11⟩ := fm_at hc0
      have r0 : W3.cell? ⟨w.heap.size + 1, 0, none⟩ = some (.int .u8 y0) := blk_cell hc1 0
      have r1 : W3.cell? ⟨w.heap.size + 1, 1, none⟩ = some (.int .u8 y1) := blk_cell hc1 1
      have r2 : W3.cell? ⟨w.heap.size + 1, 2, none⟩ = some (.int .u8 y2) := blk_cell hc1 2
      have r3 : W3.cell? ⟨w.heap.size + 1, 3, none⟩ = some (.int .u8 y3) := blk_cell hc1 3
      have r4 : W3.cell? ⟨w.heap.size + 1, 4, none⟩ = some (.int .u8 y4) := blk_cell hc1 4
      have r5 : W3.cell? ⟨w.heap.size + 1, 5, none⟩ = some (.int .u8 y5) := blk_cell hc1 5
      have r6 : W3.cell? ⟨w.heap.size + 1, 6, none⟩ = some (.int .u8 y6) := blk_cell hc1 6
      have r7 : W3.cell? ⟨w.heap.size + 1, 7, none⟩ = some (.int .u8 y7) := blk_cell hc1 7
      have HW3 := Aside0.mk ((HBW.out.drew).trans (hcb.mono (Nat.le_succ _)))
      clear hc0 hc1 hcb HC
      go_still_tail 5, (by kernel_rfl)
      change wpList _ _ _ _ _ W.drew
      generalize W.drew = W2 at hrun
      go_wp2
      go_ret
      refine ⟨?_, HW3.out⟩
      rcases q with _ | _
      · exact .inr ⟨rfl, fun h => by have := HQ.out.2 h; simp at this⟩
      · exact .inl ⟨rfl, HQ.out.1 rfl⟩
    · have hcd := zero_eq i n h1 h2 h3 [x0, x1, x2, x3, x4, x5, x6, x7] rfl
      rw [hR] at hcd
      obtain ⟨q, hq, heq⟩ := arr_dec [0, 0, 0, 0, 0, 0, 0, 0] [x0, x1, x2, x3, x4, x5, x6, x7] rfl rfl
      have heq2 : ∀ W, (Op.equalIn 10000 30 (.agg #[.int .u8 0, .int .u8 0, .int .u8 0, .int .u8 0, .int .u8 0, .int .u8 0, .int .u8 0, .int .u8 0]) (.agg #[.int .u8 x0, .int .u8 x1, .int .u8 x2, .int .u8 x3, .int .u8 x4, .int .u8 x5, .int .u8 x6, .int .u8 x7])).run Try.prog W = .ok q W := heq
      have HQ := Aside0.mk (hq.trans hcd)
      clear hcd hq heq hR
      go_enter Try.func20, Try.ntmps20
      go_wp2
      go_ret
      refine ⟨?_, two_below w _ _ 0⟩
      rcases q with _ | _
      · exact .inr ⟨rfl, fun h => by have := HQ.out.2 h; simp at this⟩
      · exact .inl ⟨rfl, HQ.out.1 rfl⟩
  · have HR := Aside0.mk (show ¬ R by
      rw [← hR]
      exact fun h => hh ⟨h.1, h.2.1, h.2.2.1⟩)
    clear hR
    go_enter Try.func20, Try.ntmps20
    go_wp2
    all_goals
      go_ret
      exact ⟨.inr ⟨rfl, HR.out⟩, below_alloc (Below.refl _ _) _⟩

theorem fm_lit {W : World} {g : Nat} {t : TypeId} {i n x0 x1 x2 x3 x4 x5 x6 x7 : Int} {b : Bool} (h : W.heap[g]? = some (.cells #[.int .u16 i, .int .i64 n, .int .u8 x0, .int .u8 x1, .int .u8 x2, .int .u8 x3, .int .u8 x4, .int .u8 x5, .int .u8 x6, .int .u8 x7, .bool b] t (0, 0))) :
    W.cell? ⟨g, 0, none⟩ = some (.int .u16 i) ∧ W.cell? ⟨g, 1, none⟩ = some (.int .i64 n) ∧ W.cell? ⟨g, 2, none⟩ = some (.int .u8 x0) ∧ W.cell? ⟨g, 3, none⟩ = some (.int .u8 x1) ∧ W.cell? ⟨g, 4, none⟩ = some (.int .u8 x2) ∧ W.cell? ⟨g, 5, none⟩ = some (.int .u8 x3) ∧ W.cell? ⟨g, 6, none⟩ = some (.int .u8 x4) ∧ W.cell? ⟨g, 7, none⟩ = some (.int .u8 x5) ∧ W.cell? ⟨g, 8, none⟩ = some (.int .u8 x6) ∧ W.cell? ⟨g, 9, none⟩ = some (.int .u8 x7) ∧ W.cell? ⟨g, 10, none⟩ = some (.bool b) ∧ ∀ j, W.frozen? ⟨g, j, none⟩ = false := fm_at h
/-- A new block behind a call that leaves it. -/
theorem after_call {w w' : World} {o : Obj} (h : Below (w.alloc o).heap.size (w.alloc o) w') : w'.heap[w.heap.size]? = some o ∧ Below w.heap.size w w' :=
  ⟨blk_below (World.alloc_heap_new w o) h, (below_alloc (Below.refl _ _) _).trans (h.mono (by simp))⟩
set_option maxHeartbeats 1000000 in
set_option maxRecDepth 100000 in
theorem rright_any (i n x0 x1 x2 x3 x4 x5 x6 x7 : Int) (b : Bool) (w : World) :
    Calls Try.prog 39 #[.agg #[.int .u16 i, .int .i64 n, .int .u8 x0, .int .u8 x1, .int .u8 x2, .int .u8 x3, .int .u8 x4, .int .u8 x5, .int .u8 x6, .int .u8 x7, .bool b]] w fun e w' =>
      (e = .returned (.bool true) ∧ Rt ⟨i, n, [x0, x1, x2, x3, x4, x5, x6, x7], b⟩ ∨ e = .returned (.bool false) ∧ ¬ Rt ⟨i, n, [x0, x1, x2, x3, x4, x5, x6, x7], b⟩) ∧ Below w.heap.size w w' := by
  obtain ⟨R, hR⟩ : ∃ R, Rt ⟨i, n, [x0, x1, x2, x3, x4, x5, x6, x7], b⟩ = R := ⟨_, rfl⟩
  rw [hR]
  by_cases hh : i ≤ 2047 ∧ 0 ≤ n ∧ n ≤ 8
  · obtain ⟨d, hd⟩ : ∃ d, [x0, x1, x2, x3, x4, x5, x6, x7] = d := ⟨_, rfl⟩
    have hdl : d.length = 8 := by rw [← hd]; rfl
    have HR := Aside0.mk (show (∀ j : Nat, j < 8 → d[j]?.getD 0 = 0 ∨ ((j : Int) < n ∧ b = false)) ↔ R by
      rw [← hR, ← hd]
      exact ⟨fun h => ⟨hh.1, hh.2.1, hh.2.2, h⟩, fun h => h.2.2.2⟩)
    have HD := Aside0.mk hd
    obtain ⟨P, hP⟩ : ∃ P : Nat → Prop, (fun k => ∀ j : Nat, j < k → d[j]?.getD 0 = 0 ∨ ((j : Int) < n ∧ b = false)) = P := ⟨_, rfl⟩
    have HP := Aside0.mk hP
    have P8 := Aside0.mk (show P 8 → R from fun h => HR.out.1 (by rw [← HP.out] at h; exact h))
    have P0 := Aside0.mk (show P 0 by rw [← HP.out]; exact fun j hj => by omega)
    clear hR hd hP
    obtain ⟨h1, h2, h3⟩ := hh
    go_enter Try.func39, Try.ntmps39
    go_wp2
    go_loopw [3] (fun j wr => ∃ k : Nat, k ≤ 8 ∧ j = .int .i64 k ∧ Aside0 (wr.heap[w.heap.size]? = some (.cells (Fm.cells ⟨i, n, d, b⟩) 32 (0, 0))) ∧ Aside0 (Below w.heap.size w wr) ∧ Aside0 (P k)) (fun j _ => 8 - (intOf j).toNat)
    case atStart =>
      refine ⟨0, Nat.zero_le _, rfl, ⟨?_⟩, ⟨below_alloc (Below.refl _ _) _⟩, P0⟩
      rw [← HD.out]
      exact World.alloc_heap_new w _
    case round =>
      obtain ⟨k, hk, rfl, HB, HW, HG⟩ := hrel
      by_cases hlt : k < 8
      · have hcl := blk_cell HB.out (2 + k)
        rw [fm_len _ _ _ _ k (by omega)] at hcl
        have hb1 := HB.out
        rw [← HD.out] at hb1
        obtain ⟨_, f1, _, _, _, _, _, _, _, _, f10, _⟩ := fm_at hb1
        clear hb1
        obtain ⟨x, hx⟩ : ∃ x, d[k]?.getD 0 = x := ⟨_, rfl⟩
        rw [hx] at hcl
        have HX := Aside0.mk hx
        clear hx
        have HEND : ∀ (_ : x = 0 ∨ ((k : Int) < n ∧ b = false)), (∃ k_1 : Nat, k_1 ≤ 8 ∧ Value.int IntKind.i64 (↑k + 1) = Value.int IntKind.i64 ↑k_1 ∧ Aside0 (wr.heap[w.heap.size]? = some (.cells (Fm.cells ⟨i, n, d, b⟩) 32 (0, 0))) ∧ Aside0 (Below w.heap.size w wr) ∧ Aside0 (P k_1)) ∧ 8 - (intOf (Value.int IntKind.i64 (↑k + 1))).toNat < 8 - (intOf (Value.int IntKind.i64 ↑k)).toNat := by
          intro h
          refine ⟨⟨k + 1, by omega, by simp, HB, HW, ⟨?_⟩⟩, by simp [intOf]; omega⟩
          have HG := HG.out
          rw [← HP.out] at HG ⊢
          intro j hj
          rcases Nat.lt_or_eq_of_le (Nat.le_of_lt_succ hj) with h2 | rfl
          · exact HG j h2
          · rw [HX.out]
            exact h
        have HBAD : (¬ (x = 0 ∨ ((k : Int) < n ∧ b = false))) → ¬ R := fun h hr => h (by
          have := HR.out.2 hr k hlt
          rwa [HX.out] at this)
        have HE := Aside0.mk HEND
        have HN := Aside0.mk HBAD
        clear HEND HBAD
        by_cases hx0 : x = 0
        · subst hx0
          go_wp2
          exact HE.out (.inl rfl)
        · by_cases hkn : (k : Int) < n
          · rcases b with _ | _
            · go_wp2
              exact HE.out (.inr ⟨hkn, rfl⟩)
            · go_wp2
              go_ret
              exact ⟨.inr ⟨rfl, HN.out (by simp [hx0])⟩, HW.out⟩
          · go_wp2
            go_ret
            exact ⟨.inr ⟨rfl, HN.out (fun h => h.elim hx0 (fun h => by have := h.1; omega))⟩, HW.out⟩
      · obtain rfl : k = 8 := by omega
        go_wp2
        go_ret
        exact ⟨.inl ⟨rfl, P8.out HG.out⟩, HW.out⟩
  · have HR := Aside0.mk (show ¬ R by
      rw [← hR]
      exact fun h => hh ⟨h.1, h.2.1, h.2.2.1⟩)
    clear hR
    go_enter Try.func39, Try.ntmps39
    go_wp2
    all_goals
      go_ret
      exact ⟨.inr ⟨rfl, HR.out⟩, below_alloc (Below.refl _ _) _⟩
theorem two_grow (w : World) (o1 o2 : Obj) : ∃ os, (w.alloc o1).alloc o2 = Go.Sort.grow w os := ⟨_, by rw [Go.Sort.alloc_eq_grow, Go.Sort.alloc_eq_grow, Go.Sort.grow_grow]⟩

/-- Which of two goes first. -/
def bef (i : Int) (b : Bool) (i' : Int) (b' : Bool) : Bool := decide (i < i') || (decide (i = i') && !b && b')
set_option maxHeartbeats 2000000 in
set_option maxRecDepth 100000 in
theorem fbefore_any (i n x0 x1 x2 x3 x4 x5 x6 x7 : Int) (b : Bool) (i' n' y0 y1 y2 y3 y4 y5 y6 y7 : Int) (b' : Bool) (w : World) :
    Calls Try.prog 38 #[.agg #[.int .u16 i, .int .i64 n, .int .u8 x0, .int .u8 x1, .int .u8 x2, .int .u8 x3, .int .u8 x4, .int .u8 x5, .int .u8 x6, .int .u8 x7, .bool b], .agg #[.int .u16 i', .int .i64 n', .int .u8 y0, .int .u8 y1, .int .u8 y2, .int .u8 y3, .int .u8 y4, .int .u8 y5, .int .u8 y6, .int .u8 y7, .bool b']] w fun e w' =>
      e = .returned (.bool (bef i b i' b')) ∧ ∃ os, w' = Go.Sort.grow w os := by
  obtain ⟨q, hq⟩ : ∃ q, bef i b i' b' = q := ⟨_, rfl⟩
  rw [hq]
  by_cases h1 : i < i'
  · have HQ := Aside0.mk (show q = true by rw [← hq]; simp [bef, h1])
    clear hq
    have h2 : ¬ i = i' := by omega
    go_enter Try.func38, Try.ntmps38
    go_wp2
    go_ret
    exact ⟨by rw [HQ.out]; rfl, two_grow w _ _⟩
  · by_cases h2 : i = i'
    · have HQ := Aside0.mk (show q = (!b && b') by rw [← hq]; simp [bef, h2])
      clear hq
      rcases b with _ | _ <;> rcases b' with _ | _
      all_goals
        go_enter Try.func38, Try.ntmps38
        go_wp2
        go_ret
        exact ⟨by rw [HQ.out]; rfl, two_grow w _ _⟩
    · have HQ := Aside0.mk (show q = false by rw [← hq]; simp [bef, h1, h2])
      clear hq
      go_enter Try.func38, Try.ntmps38
      go_wp2
      go_ret
      exact ⟨by rw [HQ.out]; rfl, two_grow w _ _⟩
set_option maxHeartbeats 2000000 in
set_option maxRecDepth 100000 in
theorem rbefore_any (i n x0 x1 x2 x3 x4 x5 x6 x7 : Int) (b : Bool) (i' n' y0 y1 y2 y3 y4 y5 y6 y7 : Int) (b' : Bool) (w : World) :
    Calls Try.prog 52 #[.agg #[.int .u16 i, .int .i64 n, .int .u8 x0, .int .u8 x1, .int .u8 x2, .int .u8 x3, .int .u8 x4, .int .u8 x5, .int .u8 x6, .int .u8 x7, .bool b], .agg #[.int .u16 i', .int .i64 n', .int .u8 y0, .int .u8 y1, .int .u8 y2, .int .u8 y3, .int .u8 y4, .int .u8 y5, .int .u8 y6, .int .u8 y7, .bool b']] w fun e w' =>
      e = .returned (.bool (bef i b i' b')) ∧ ∃ os, w' = Go.Sort.grow w os := by
  obtain ⟨q, hq⟩ : ∃ q, bef i b i' b' = q := ⟨_, rfl⟩
  rw [hq]
  by_cases h1 : i < i'
  · have HQ := Aside0.mk (show q = true by rw [← hq]; simp [bef, h1])
    clear hq
    have h2 : ¬ i = i' := by omega
    go_enter Try.func52, Try.ntmps52
    go_wp2
    go_ret
    exact ⟨by rw [HQ.out]; rfl, two_grow w _ _⟩
  · by_cases h2 : i = i'
    · have HQ := Aside0.mk (show q = (!b && b') by rw [← hq]; simp [bef, h2])
      clear hq
      rcases b with _ | _ <;> rcases b' with _ | _
      all_goals
        go_enter Try.func52, Try.ntmps52
        go_wp2
        go_ret
        exact ⟨by rw [HQ.out]; rfl, two_grow w _ _⟩
    · have HQ := Aside0.mk (show q = false by rw [← hq]; simp [bef, h1, h2])
      clear hq
      go_enter Try.func52, Try.ntmps52
      go_wp2
      go_ret
      exact ⟨by rw [HQ.out]; rfl, two_grow w _ _⟩
end Go.Proofs.Ytnjmohdfnicpdaa.Frm
