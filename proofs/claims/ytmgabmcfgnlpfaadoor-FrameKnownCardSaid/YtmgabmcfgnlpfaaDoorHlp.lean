/- Helpers for FrameMakes: what both Write and both Right tell; three frames in a row. -/
import Derived.Test.YtmgabmcfgnlpfaaDoorSmb
namespace Go.Proofs.YtmgabmcfgnlpfaaDoor.Frm
open Go.RowKit Go.Proofs.YtmgabmcfgnlpfaaDoorW.PrintWords Go.Proofs.YtmgabmcfgnlpfaaDoorW.PrintMore Go.Proofs.YtmgabmcfgnlpfaaDoorW.PrintLast

theorem rwrite_of (ix nx x0 x1 x2 x3 x4 x5 x6 x7 : Int) (qx : Bool) {t : ByteArray} {k : Int} (hm : WrOf ⟨ix, nx, [x0, x1, x2, x3, x4, x5, x6, x7], qx⟩ t k) (w : World) (hw : Wf ⟨ix, nx, [x0, x1, x2, x3, x4, x5, x6, x7], qx⟩) :
    Calls Tryd.prog 19 #[.agg #[.int .u16 ix, .int .i64 nx, .int .u8 x0, .int .u8 x1, .int .u8 x2, .int .u8 x3, .int .u8 x4, .int .u8 x5, .int .u8 x6, .int .u8 x7, .bool qx]] w fun e w' => e = .returned (.tuple #[.string t, .int .i64 k]) ∧ Below w.heap.size w w' := by
  refine (rwrite_any ix nx x0 x1 x2 x3 x4 x5 x6 x7 qx w hw).mono ?_
  rintro e w' ⟨(⟨h, rfl⟩ | ⟨h, rfl⟩), hb⟩
  · rcases hm with ⟨_, rfl, rfl⟩ | ⟨hn, _, _⟩
    · exact ⟨rfl, hb⟩
    · exact absurd h hn
  · rcases hm with ⟨hn, _, _⟩ | ⟨_, rfl, rfl⟩
    · exact absurd hn h
    · exact ⟨rfl, hb⟩
theorem fright_of (ix nx x0 x1 x2 x3 x4 x5 x6 x7 : Int) (qx : Bool) {r : Bool} (hm : r = true ↔ Rt ⟨ix, nx, [x0, x1, x2, x3, x4, x5, x6, x7], qx⟩) (w : World) :
    Calls Tryd.prog 11 #[.agg #[.int .u16 ix, .int .i64 nx, .int .u8 x0, .int .u8 x1, .int .u8 x2, .int .u8 x3, .int .u8 x4, .int .u8 x5, .int .u8 x6, .int .u8 x7, .bool qx]] w fun e w' => e = .returned (.bool r) ∧ Below w.heap.size w w' := by
  refine (fright_any ix nx x0 x1 x2 x3 x4 x5 x6 x7 qx w).mono ?_
  rintro e w' ⟨(⟨rfl, h⟩ | ⟨rfl, h⟩), hb⟩
  · exact ⟨by rw [hm.2 h], hb⟩
  · refine ⟨?_, hb⟩
    cases r
    · rfl
    · exact absurd (hm.1 rfl) h
theorem rright_of (ix nx x0 x1 x2 x3 x4 x5 x6 x7 : Int) (qx : Bool) {r : Bool} (hm : r = true ↔ Rt ⟨ix, nx, [x0, x1, x2, x3, x4, x5, x6, x7], qx⟩) (w : World) :
    Calls Tryd.prog 21 #[.agg #[.int .u16 ix, .int .i64 nx, .int .u8 x0, .int .u8 x1, .int .u8 x2, .int .u8 x3, .int .u8 x4, .int .u8 x5, .int .u8 x6, .int .u8 x7, .bool qx]] w fun e w' => e = .returned (.bool r) ∧ Below w.heap.size w w' := by
  refine (rright_any ix nx x0 x1 x2 x3 x4 x5 x6 x7 qx w).mono ?_
  rintro e w' ⟨(⟨rfl, h⟩ | ⟨rfl, h⟩), hb⟩
  · exact ⟨by rw [hm.2 h], hb⟩
  · refine ⟨?_, hb⟩
    cases r
    · rfl
    · exact absurd (hm.1 rfl) h
theorem right_ex (f : Fm) : ∃ r : Bool, r = true ↔ Rt f := by
  by_cases h : Rt f
  · exact ⟨true, by simp [h]⟩
  · exact ⟨false, by simp [h]⟩
theorem trip {W : World} {g : Nat} {t : TypeId} {ia na a0 a1 a2 a3 a4 a5 a6 a7 : Int} {qa : Bool} {ik nk k0 k1 k2 k3 k4 k5 k6 k7 : Int} {qk : Bool} {ig ng g0 g1 g2 g3 g4 g5 g6 g7 : Int} {qg : Bool} (h : W.heap[g]? = some (.cells #[.int .u16 ia, .int .i64 na, .int .u8 a0, .int .u8 a1, .int .u8 a2, .int .u8 a3, .int .u8 a4, .int .u8 a5, .int .u8 a6, .int .u8 a7, .bool qa, .int .u16 ik, .int .i64 nk, .int .u8 k0, .int .u8 k1, .int .u8 k2, .int .u8 k3, .int .u8 k4, .int .u8 k5, .int .u8 k6, .int .u8 k7, .bool qk, .int .u16 ig, .int .i64 ng, .int .u8 g0, .int .u8 g1, .int .u8 g2, .int .u8 g3, .int .u8 g4, .int .u8 g5, .int .u8 g6, .int .u8 g7, .bool qg] t (0, 0))) (ha : Wf ⟨ia, na, [a0, a1, a2, a3, a4, a5, a6, a7], qa⟩) (hk : Wf ⟨ik, nk, [k0, k1, k2, k3, k4, k5, k6, k7], qk⟩) (hg : Wf ⟨ig, ng, [g0, g1, g2, g3, g4, g5, g6, g7], qg⟩) (k : Nat) (hlt : k < 3) :
    ∃ (ix nx x0 x1 x2 x3 x4 x5 x6 x7 : Int) (qx : Bool), Wf ⟨ix, nx, [x0, x1, x2, x3, x4, x5, x6, x7], qx⟩ ∧ W.cell? ⟨g, k * 11, none⟩ = some (.int .u16 ix) ∧ W.cell? ⟨g, k * 11 + 1, none⟩ = some (.int .i64 nx) ∧ W.cell? ⟨g, k * 11 + 2, none⟩ = some (.int .u8 x0) ∧ W.cell? ⟨g, k * 11 + 3, none⟩ = some (.int .u8 x1) ∧ W.cell? ⟨g, k * 11 + 4, none⟩ = some (.int .u8 x2) ∧ W.cell? ⟨g, k * 11 + 5, none⟩ = some (.int .u8 x3) ∧ W.cell? ⟨g, k * 11 + 6, none⟩ = some (.int .u8 x4) ∧ W.cell? ⟨g, k * 11 + 7, none⟩ = some (.int .u8 x5) ∧ W.cell? ⟨g, k * 11 + 8, none⟩ = some (.int .u8 x6) ∧ W.cell? ⟨g, k * 11 + 9, none⟩ = some (.int .u8 x7) ∧ W.cell? ⟨g, k * 11 + 10, none⟩ = some (.bool qx) := by
  rcases (by omega : k = 0 ∨ k = 1 ∨ k = 2) with rfl | rfl | rfl
  · exact ⟨ia, na, a0, a1, a2, a3, a4, a5, a6, a7, qa, ha, blk_cell h 0, blk_cell h 1, blk_cell h 2, blk_cell h 3, blk_cell h 4, blk_cell h 5, blk_cell h 6, blk_cell h 7, blk_cell h 8, blk_cell h 9, blk_cell h 10⟩
  · exact ⟨ik, nk, k0, k1, k2, k3, k4, k5, k6, k7, qk, hk, blk_cell h 11, blk_cell h 12, blk_cell h 13, blk_cell h 14, blk_cell h 15, blk_cell h 16, blk_cell h 17, blk_cell h 18, blk_cell h 19, blk_cell h 20, blk_cell h 21⟩
  · exact ⟨ig, ng, g0, g1, g2, g3, g4, g5, g6, g7, qg, hg, blk_cell h 22, blk_cell h 23, blk_cell h 24, blk_cell h 25, blk_cell h 26, blk_cell h 27, blk_cell h 28, blk_cell h 29, blk_cell h 30, blk_cell h 31, blk_cell h 32⟩
/-- A row of bytes of the call's own. -/
theorem own_row {W : World} {base : Nat} {A : Option Addr} {c : Nat} {l : List Int} (h : Kd.R kB 5 W base (fun _ => True) (.slice A l.length c) l) (hn : 0 < l.length) :
    ∃ g cur, A = some ⟨g, 0, none⟩ ∧ base ≤ g ∧ W.heap[g]? = some (.cells cur 5 (0, 0)) ∧ l.length ≤ cur.size := by
  have ho := Kd.own_of_R h
  rcases ho.2 with ⟨hv, h0⟩ | ⟨g, cap, cur, hv, hbg, hg, hr⟩
  · omega
  · injection hv with e1 e2 e3
    refine ⟨g, cur, e1, hbg, hg, ?_⟩
    have := hr.1
    have h3 := hr.2.2.1
    omega
end Go.Proofs.YtmgabmcfgnlpfaaDoor.Frm
