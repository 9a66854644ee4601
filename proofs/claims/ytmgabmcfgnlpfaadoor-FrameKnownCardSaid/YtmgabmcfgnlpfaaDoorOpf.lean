/- A frame as an argument: what it reads. -/
import Derived.Test.YtmgabmcfgnlpfaaDoorEqs
import Derived.ProofKit
import Derived.OpenShut
import Derived.WideShapes
namespace Go.Proofs.YtmgabmcfgnlpfaaDoor.Frm
open Go.RowKit Go.ChangeShapes Go.WideShapes

theorem cells_fr : Tryd.prog.cellsOf 25 = 11 := by kernel_rfl
theorem cells_i : Tryd.prog.cellsOf 3 = 1 := by kernel_rfl
theorem cells_u16 : Tryd.prog.cellsOf 22 = 1 := by kernel_rfl
theorem cells_u8 : Tryd.prog.cellsOf 5 = 1 := by kernel_rfl
theorem cells_b : Tryd.prog.cellsOf 4 = 1 := by kernel_rfl
theorem cells_a8 : Tryd.prog.cellsOf 23 = 8 := by kernel_rfl
theorem wf_u8 {n : Int} (h : (Lit.int .u8 n).wf = true) : 0 ≤ n ∧ n < 256 := by
  have := bounds_u8 h
  omega
section
variable {H : Type} {enc : TypeId × Value → H} {W : World} {held : Bool}
theorem open_cells {fuel : Nat} {cs : List Value} {d : DataW H} {p : List MemPlace} (h : DataW.trod enc Tryd.prog W 0 (fun _ => true) held fuel 25 cs = some (d, p)) :
    ∃ (i n x0 x1 x2 x3 x4 x5 x6 x7 : Int) (b : Bool), cs = [.int .u16 i, .int .i64 n, .int .u8 x0, .int .u8 x1, .int .u8 x2, .int .u8 x3, .int .u8 x4, .int .u8 x5, .int .u8 x6, .int .u8 x7, .bool b] ∧ Wf ⟨i, n, [x0, x1, x2, x3, x4, x5, x6, x7], b⟩ := by
  obtain ⟨xs, n, rfl, hx, hcl, hxl, hf⟩ := DataW.trod_struct Tryd.underlying25 h
  rw [cells_fr] at hcl
  match xs, hxl, cs, hcl with
  | [y0, y1, y2, y3], _, [c0, c1, c2, c3, c4, c5, c6, c7, c8, c9, c10], _ =>
    have g0 := hf 0 _ rfl
    have g1 := hf 1 _ rfl
    have g2 := hf 2 _ rfl
    have g3 := hf 3 _ rfl
    simp [cells_i, cells_u16, cells_a8, cells_b] at g0 g1 g2 g3
    obtain ⟨i, hi, -, wi⟩ := DataW.trod_int Tryd.underlying22 g0
    obtain ⟨m, hm, -, wm⟩ := DataW.trod_int Tryd.underlying3 g1
    obtain ⟨b, hb, -⟩ := DataW.trod_bool Tryd.underlying4 g3
    obtain ⟨zs, k, rfl, hz, _, hzl, hg⟩ := DataW.trod_array Tryd.underlying23 g2
    match zs, hzl with
    | [z0, z1, z2, z3, z4, z5, z6, z7], _ =>
      have e0 := hg 0 (by omega)
      have e1 := hg 1 (by omega)
      have e2 := hg 2 (by omega)
      have e3 := hg 3 (by omega)
      have e4 := hg 4 (by omega)
      have e5 := hg 5 (by omega)
      have e6 := hg 6 (by omega)
      have e7 := hg 7 (by omega)
      simp [cells_u8] at e0 e1 e2 e3 e4 e5 e6 e7
      obtain ⟨x0, h0, -, w0⟩ := DataW.trod_int Tryd.underlying5 e0
      obtain ⟨x1, h1, -, w1⟩ := DataW.trod_int Tryd.underlying5 e1
      obtain ⟨x2, h2, -, w2⟩ := DataW.trod_int Tryd.underlying5 e2
      obtain ⟨x3, h3, -, w3⟩ := DataW.trod_int Tryd.underlying5 e3
      obtain ⟨x4, h4, -, w4⟩ := DataW.trod_int Tryd.underlying5 e4
      obtain ⟨x5, h5, -, w5⟩ := DataW.trod_int Tryd.underlying5 e5
      obtain ⟨x6, h6, -, w6⟩ := DataW.trod_int Tryd.underlying5 e6
      obtain ⟨x7, h7, -, w7⟩ := DataW.trod_int Tryd.underlying5 e7
      simp only [List.cons.injEq, and_true] at hi hm hb h0 h1 h2 h3 h4 h5 h6 h7
      subst hi hm hb h0 h1 h2 h3 h4 h5 h6 h7
      refine ⟨i, m, x0, x1, x2, x3, x4, x5, x6, x7, b, rfl, rfl, ?_, ?_⟩
      · intro x hx
        simp only [List.mem_cons, List.mem_nil_iff, or_false] at hx
        rcases hx with rfl | rfl | rfl | rfl | rfl | rfl | rfl | rfl
        · exact wf_u8 w0
        · exact wf_u8 w1
        · exact wf_u8 w2
        · exact wf_u8 w3
        · exact wf_u8 w4
        · exact wf_u8 w5
        · exact wf_u8 w6
        · exact wf_u8 w7
      · exact (bounds_u16 wi).1
end
/-- A frame by value. -/
theorem open_frame {H : Type} {enc : TypeId × Value → H} {W : World} {held : Bool} {r : Reach} {b0 : Nat} {v : Value} {d : DataW H} {p : List MemPlace} (hval : Value.okWide Tryd.prog W r b0 25 v) (h : DataW.Trod enc Tryd.prog W 0 (fun _ => true) held 25 v d p) :
    ∃ (i n x0 x1 x2 x3 x4 x5 x6 x7 : Int) (b : Bool), v = .agg #[.int .u16 i, .int .i64 n, .int .u8 x0, .int .u8 x1, .int .u8 x2, .int .u8 x3, .int .u8 x4, .int .u8 x5, .int .u8 x6, .int .u8 x7, .bool b] ∧ Wf ⟨i, n, [x0, x1, x2, x3, x4, x5, x6, x7], b⟩ := by
  obtain ⟨cs, rfl, _⟩ := okWide_struct Tryd.underlying25 hval
  obtain ⟨m, hm⟩ := h
  obtain ⟨i, n, x0, x1, x2, x3, x4, x5, x6, x7, b, hc, hw⟩ := open_cells hm
  refine ⟨i, n, x0, x1, x2, x3, x4, x5, x6, x7, b, ?_, hw⟩
  congr 1
  exact Array.toList_inj.1 hc
end Go.Proofs.YtmgabmcfgnlpfaaDoor.Frm
