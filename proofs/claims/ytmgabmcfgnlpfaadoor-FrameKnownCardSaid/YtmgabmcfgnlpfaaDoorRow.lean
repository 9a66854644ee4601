/- Stores over a whole row of eleven cells; a row of cells and a draw. -/
import Derived.Test.YtmgabmcfgnlpfaaDoorPln
import Derived.Laws.IdiomCopy
import Derived.RangeFuncRecord
import Derived.Below
import Derived.OwnWalkIn
namespace Go.Proofs.YtmgabmcfgnlpfaaDoor.Frm
open Go.RowKit Go.Proofs.YtmgabmcfgnlpfaaDoorW.PrintWords Go.Proofs.YtmgabmcfgnlpfaaDoorW.PrintMore Go.Proofs.YtmgabmcfgnlpfaaDoorW.PrintLast

/-- An array into which a list is put from a place on. -/
def putAt : Array Value → Nat → List Value → Array Value
  | cs, _, [] => cs
  | cs, o, v :: r => putAt (cs.setIfInBounds o v) (o + 1) r
theorem heap_setCells {g : Nat} {t : TypeId} : ∀ (vs : List Value) (o : Nat) (w : World) (cs : Array Value), w.heap[g]? = some (.cells cs t (0, 0)) → (w.setCells g o vs).heap[g]? = some (.cells (putAt cs o vs) t (0, 0))
  | [], _, _, _, h => h
  | v :: r, o, w, cs, h => heap_setCells r (o + 1) (w.setCell ⟨g, o, none⟩ v) (cs.setIfInBounds o v) (blk_put h o v rfl)
theorem cells11 (W : World) (g : Nat) (v0 v1 v2 v3 v4 v5 v6 v7 v8 v9 v10 : Value) :
    ((((((((((W.setCell ⟨g, 0, none⟩ v0).setCell ⟨g, 1, none⟩ v1).setCell ⟨g, 2, none⟩ v2).setCell ⟨g, 3, none⟩ v3).setCell ⟨g, 4, none⟩ v4).setCell ⟨g, 5, none⟩ v5).setCell ⟨g, 6, none⟩ v6).setCell ⟨g, 7, none⟩ v7).setCell ⟨g, 8, none⟩ v8).setCell ⟨g, 9, none⟩ v9).setCell ⟨g, 10, none⟩ v10 = W.setCells g 0 [v0, v1, v2, v3, v4, v5, v6, v7, v8, v9, v10] := rfl
theorem putAt11 (u0 u1 u2 u3 u4 u5 u6 u7 u8 u9 u10 v0 v1 v2 v3 v4 v5 v6 v7 v8 v9 v10 : Value) : putAt #[u0, u1, u2, u3, u4, u5, u6, u7, u8, u9, u10] 0 [v0, v1, v2, v3, v4, v5, v6, v7, v8, v9, v10] = #[v0, v1, v2, v3, v4, v5, v6, v7, v8, v9, v10] := by simp [putAt]
theorem row11 {W : World} {g : Nat} {t : TypeId} {u0 u1 u2 u3 u4 u5 u6 u7 u8 u9 u10 : Value} (h : W.heap[g]? = some (.cells #[u0, u1, u2, u3, u4, u5, u6, u7, u8, u9, u10] t (0, 0))) (v0 v1 v2 v3 v4 v5 v6 v7 v8 v9 v10 : Value) :
    (W.setCells g 0 [v0, v1, v2, v3, v4, v5, v6, v7, v8, v9, v10]).heap[g]? = some (.cells #[v0, v1, v2, v3, v4, v5, v6, v7, v8, v9, v10] t (0, 0)) := by
  rw [← putAt11 u0 u1 u2 u3 u4 u5 u6 u7 u8 u9 u10]
  exact heap_setCells _ _ _ _ h
theorem below_cells {B g : Nat} (hg : B ≤ g) : ∀ (vs : List Value) (o : Nat) {a w : World}, Below B a w → Below B a (w.setCells g o vs)
  | [], _, _, _, h => h
  | v :: r, o, _, _, h => below_cells hg r (o + 1) (h.setCell (p := ⟨g, o, none⟩) hg v)
theorem alloc_drewN (w : World) (o : Obj) (m : Nat) : (w.alloc o).drewN m = (w.drewN m).alloc o := rfl
theorem below_drewN {B : Nat} {a w : World} (h : Below B a w) (m : Nat) : Below B a (w.drewN m) := ⟨h.os, h.tape, h.output, h.size, h.block⟩
theorem drewN_new (w : World) (o : Obj) (m : Nat) : ((w.alloc o).drewN m).heap[w.heap.size]? = some o := World.alloc_heap_new w o
/-- A new row of eleven cells, a draw, a store over the whole row. -/
theorem new_row (w : World) (t : TypeId) (m : Nat) (u0 u1 u2 u3 u4 u5 u6 u7 u8 u9 u10 v0 v1 v2 v3 v4 v5 v6 v7 v8 v9 v10 : Value) :
    (((w.alloc (.cells #[u0, u1, u2, u3, u4, u5, u6, u7, u8, u9, u10] t)).drewN m).setCells w.heap.size 0 [v0, v1, v2, v3, v4, v5, v6, v7, v8, v9, v10]).heap[w.heap.size]? = some (.cells #[v0, v1, v2, v3, v4, v5, v6, v7, v8, v9, v10] t (0, 0)) := by
  have h := drewN_new w (.cells #[u0, u1, u2, u3, u4, u5, u6, u7, u8, u9, u10] t) m
  generalize (w.alloc (.cells #[u0, u1, u2, u3, u4, u5, u6, u7, u8, u9, u10] t)).drewN m = W at h
  exact row11 h v0 v1 v2 v3 v4 v5 v6 v7 v8 v9 v10
theorem new_below (w : World) (o : Obj) (m : Nat) (vs : List Value) : Below w.heap.size w (((w.alloc o).drewN m).setCells w.heap.size 0 vs) :=
  below_cells (Nat.le_refl _) _ _ (below_drewN (below_alloc (Below.refl _ _) _) m)
theorem two_new1 (w : World) (o1 o2 : Obj) (m : Nat) : (((w.alloc o1).drewN m).alloc o2).heap[w.heap.size]? = some o1 := blk_alloc (drewN_new w o1 m) o2
theorem two_new2 (w : World) (o1 o2 : Obj) (m : Nat) : (((w.alloc o1).drewN m).alloc o2).heap[w.heap.size + 1]? = some o2 := by
  have h := heap_alloc_new ((w.alloc o1).drewN m) o2
  have hs : ((w.alloc o1).drewN m).heap.size = w.heap.size + 1 := by
    show (w.alloc o1).heap.size = _
    simp
  rwa [hs] at h
theorem two_below (w : World) (o1 o2 : Obj) (m : Nat) : Below w.heap.size w (((w.alloc o1).drewN m).alloc o2) :=
  (below_drewN (below_alloc (Below.refl _ _) _) m).alloc (by show _ ≤ (w.alloc o1).heap.size; simp) _
theorem fm_at {W : World} {g : Nat} {t : TypeId} {i n x0 x1 x2 x3 x4 x5 x6 x7 : Int} {b : Bool} (h : W.heap[g]? = some (.cells (Fm.cells ⟨i, n, [x0, x1, x2, x3, x4, x5, x6, x7], b⟩) t (0, 0))) :
    W.cell? ⟨g, 0, none⟩ = some (.int .u16 i) ∧ W.cell? ⟨g, 1, none⟩ = some (.int .i64 n) ∧ W.cell? ⟨g, 2, none⟩ = some (.int .u8 x0) ∧ W.cell? ⟨g, 3, none⟩ = some (.int .u8 x1) ∧ W.cell? ⟨g, 4, none⟩ = some (.int .u8 x2) ∧ W.cell? ⟨g, 5, none⟩ = some (.int .u8 x3) ∧ W.cell? ⟨g, 6, none⟩ = some (.int .u8 x4) ∧ W.cell? ⟨g, 7, none⟩ = some (.int .u8 x5) ∧ W.cell? ⟨g, 8, none⟩ = some (.int .u8 x6) ∧ W.cell? ⟨g, 9, none⟩ = some (.int .u8 x7) ∧ W.cell? ⟨g, 10, none⟩ = some (.bool b) ∧ ∀ j, W.frozen? ⟨g, j, none⟩ = false :=
  ⟨blk_cell h 0, blk_cell h 1, blk_cell h 2, blk_cell h 3, blk_cell h 4, blk_cell h 5, blk_cell h 6, blk_cell h 7, blk_cell h 8, blk_cell h 9, blk_cell h 10, fun j => blk_frozen h j⟩
theorem row_fm {W : World} {g : Nat} {t : TypeId} {i n x0 x1 x2 x3 x4 x5 x6 x7 : Int} {b : Bool} (h : W.heap[g]? = some (.cells (Fm.cells ⟨i, n, [x0, x1, x2, x3, x4, x5, x6, x7], b⟩) t (0, 0))) (v0 v1 v2 v3 v4 v5 v6 v7 v8 v9 v10 : Value) :
    (W.setCells g 0 [v0, v1, v2, v3, v4, v5, v6, v7, v8, v9, v10]).heap[g]? = some (.cells #[v0, v1, v2, v3, v4, v5, v6, v7, v8, v9, v10] t (0, 0)) :=
  row11 h v0 v1 v2 v3 v4 v5 v6 v7 v8 v9 v10
theorem eight {d : List Int} (h : d.length = 8) : ∃ x0 x1 x2 x3 x4 x5 x6 x7, d = [x0, x1, x2, x3, x4, x5, x6, x7] := by
  match d, h with
  | [x0, x1, x2, x3, x4, x5, x6, x7], _ => exact ⟨x0, x1, x2, x3, x4, x5, x6, x7, rfl⟩
theorem fm_len (i n : Int) (d : List Int) (b : Bool) (k : Nat) (h : k < d.length) : (Fm.cells ⟨i, n, d, b⟩)[2 + k]? = some (.int .u8 (d[k]?.getD 0)) := by
  rw [List.getElem?_eq_getElem h]
  simp only [Fm.cells]
  rw [Array.getElem?_append_left (by simp; omega), Array.getElem?_append_right (by simp)]
  simp [h]
end Go.Proofs.YtmgabmcfgnlpfaaDoor.Frm
