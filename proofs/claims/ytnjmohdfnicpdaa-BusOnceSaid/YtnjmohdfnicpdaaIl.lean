/- Rows of frames and of numbers as arguments: what they read (printed by gen_il.py). -/
import Derived.Test.YtnjmohdfnicpdaaIj
import Derived.ProofKit
import Derived.OpenShut
import Derived.WideShapes
import Derived.Deep.Slices
import Derived.ChangeSlices
import Derived.SizedLaws
namespace Go.Proofs.Ytnjmohdfnicpdaa.Bus
open Go.RowKit Go.ChangeShapes Go.WideShapes Go.Deep Go.Proofs.Ytnjmohdfnicpdaa.Frm Go.Proofs.YtnjmohdfnicpdaaW.PrintWords Go.Proofs.YtnjmohdfnicpdaaW.PrintMore

theorem cells_fr : Try.prog.cellsOf 32 = 11 := by kernel_rfl
theorem cells_i : Try.prog.cellsOf 3 = 1 := by kernel_rfl
theorem cells_u16 : Try.prog.cellsOf 29 = 1 := by kernel_rfl
theorem cells_u8 : Try.prog.cellsOf 5 = 1 := by kernel_rfl
theorem cells_b : Try.prog.cellsOf 4 = 1 := by kernel_rfl
theorem cells_a8 : Try.prog.cellsOf 30 = 8 := by kernel_rfl
theorem wf_u8 {n : Int} (h : (Lit.int .u8 n).wf = true) : 0 ≤ n ∧ n < 256 := by
  have := bounds_u8 h
  omega
section
variable {H : Type} {enc : TypeId × Value → H} {W : World} {held : Bool}
set_option maxRecDepth 100000 in
theorem open_cells {fuel : Nat} {cs : List Value} {d : DataW H} {p : List MemPlace} (h : DataW.trod enc Try.prog W 0 (fun _ => true) held fuel 32 cs = some (d, p)) :
    ∃ (i n x0 x1 x2 x3 x4 x5 x6 x7 : Int) (b : Bool), cs = [.int .u16 i, .int .i64 n, .int .u8 x0, .int .u8 x1, .int .u8 x2, .int .u8 x3, .int .u8 x4, .int .u8 x5, .int .u8 x6, .int .u8 x7, .bool b] ∧ Wf ⟨i, n, [x0, x1, x2, x3, x4, x5, x6, x7], b⟩ := by
  obtain ⟨xs, n, rfl, hx, hcl, hxl, hf⟩ := DataW.trod_struct Try.underlying32 h
  rw [cells_fr] at hcl
  match xs, hxl, cs, hcl with
  | [y0, y1, y2, y3], _, [c0, c1, c2, c3, c4, c5, c6, c7, c8, c9, c10], _ =>
    have g0 := hf 0 _ rfl
    have g1 := hf 1 _ rfl
    have g2 := hf 2 _ rfl
    have g3 := hf 3 _ rfl
    simp [cells_i, cells_u16, cells_a8, cells_b] at g0 g1 g2 g3
    obtain ⟨i, hi, -, wi⟩ := DataW.trod_int Try.underlying29 g0
    obtain ⟨m, hm, -, wm⟩ := DataW.trod_int Try.underlying3 g1
    obtain ⟨b, hb, -⟩ := DataW.trod_bool Try.underlying4 g3
    obtain ⟨zs, k, rfl, hz, _, hzl, hg⟩ := DataW.trod_array Try.underlying30 g2
    match zs, hzl with
    | [z0, z1, z2, z3, z4, z5, z6, z7], _ =>
      have e0 := hg 0 (by omega)
      have e1 := hg 1 (by omega)
      have e2 := hg 2 (by omega)
      have e3 := hg 3 (by omega)
      have e4 := hg 4 (by omega)
      have e5 := hg 5 (by omega)
      have e6 := hg 6 (by omega)
      have e7 := hg 7 (by omega)
      simp [cells_u8] at e0 e1 e2 e3 e4 e5 e6 e7
      obtain ⟨x0, h0, -, w0⟩ := DataW.trod_int Try.underlying5 e0
      obtain ⟨x1, h1, -, w1⟩ := DataW.trod_int Try.underlying5 e1
      obtain ⟨x2, h2, -, w2⟩ := DataW.trod_int Try.underlying5 e2
      obtain ⟨x3, h3, -, w3⟩ := DataW.trod_int Try.underlying5 e3
      obtain ⟨x4, h4, -, w4⟩ := DataW.trod_int Try.underlying5 e4
      obtain ⟨x5, h5, -, w5⟩ := DataW.trod_int Try.underlying5 e5
      obtain ⟨x6, h6, -, w6⟩ := DataW.trod_int Try.underlying5 e6
      obtain ⟨x7, h7, -, w7⟩ := DataW.trod_int Try.underlying5 e7
      simp only [List.cons.injEq, and_true] at hi hm hb h0 h1 h2 h3 h4 h5 h6 h7
      subst hi hm hb h0 h1 h2 h3 h4 h5 h6 h7
      refine ⟨i, m, x0, x1, x2, x3, x4, x5, x6, x7, b, rfl, rfl, ?_, ?_⟩
      · intro x hx
        simp only [List.mem_cons, List.mem_nil_iff, or_false] at hx
        rcases hx with rfl | rfl | rfl | rfl | rfl | rfl | rfl | rfl
        · exact wf_u8 w0
        · exact wf_u8 w1
        · exact wf_u8 w2
        · exact wf_u8 w3
        · exact wf_u8 w4
        · exact wf_u8 w5
        · exact wf_u8 w6
        · exact wf_u8 w7
      · exact (bounds_u16 wi).1
end
set_option maxRecDepth 100000 in
theorem open_frame1 {H : Type} {enc : TypeId × Value → H} {W : World} {held : Bool} {r : Reach} {b0 : Nat} {v : Value} {d : DataW H} {p : List MemPlace} (hval : Value.okWide Try.prog W r b0 32 v) (h : DataW.Trod enc Try.prog W 0 (fun _ => true) held 32 v d p) :
    ∃ (i n x0 x1 x2 x3 x4 x5 x6 x7 : Int) (b : Bool), v = .agg #[.int .u16 i, .int .i64 n, .int .u8 x0, .int .u8 x1, .int .u8 x2, .int .u8 x3, .int .u8 x4, .int .u8 x5, .int .u8 x6, .int .u8 x7, .bool b] ∧ Wf ⟨i, n, [x0, x1, x2, x3, x4, x5, x6, x7], b⟩ := by
  obtain ⟨cs, rfl, _⟩ := okWide_struct Try.underlying32 hval
  obtain ⟨m, hm⟩ := h
  obtain ⟨i, n, x0, x1, x2, x3, x4, x5, x6, x7, b, hc, hw⟩ := open_cells hm
  refine ⟨i, n, x0, x1, x2, x3, x4, x5, x6, x7, b, ?_, hw⟩
  congr 1
  exact Array.toList_inj.1 hc


instance : Inhabited Sn := ⟨sn0⟩
section
variable {H : Type} {enc : TypeId × Value → H} {W : World} {held : Bool}
set_option maxRecDepth 100000 in
/-- A row of frames. -/
theorem open_frs {v : Value} {d : DataW H} {p : List MemPlace} (h : DataW.Trod enc Try.prog W 0 (fun _ => true) held 22 v d p) (hv : v.cells.toList = [v]) :
    ∃ (l : List Sn) (A : Option Addr) (c : Nat), v = .slice A l.length c ∧ FrsAt W A l := by
  obtain ⟨fuel, hf⟩ := h
  rw [hv] at hf
  rcases open_slice Try.underlying22 hf with ⟨hcs, hx⟩ | ⟨a, len, cap, m, n, D, Pl, hcs, _, hl, hm, hmm, hx, hel⟩
  · injection hcs with hcs
    subst hcs
    exact ⟨[], none, 0, rfl, fun h => absurd h (Nat.lt_irrefl 0), fun k s hk => by simp at hk⟩
  · injection hcs with hcs
    subst hcs
    rw [if_pos rfl] at hmm
    subst hmm
    rw [cells_fr] at hel
    have each : ∀ i, i < len → ∃ s : Sn, W.cells? 0 (a.add (i * 11)) 11 = some s.fcells.toList := by
      intro i hi
      obtain ⟨cs', h1, h2⟩ := hel i (by omega)
      obtain ⟨q, m, x0, x1, x2, x3, x4, x5, x6, x7, b, hc, -⟩ := open_cells h2
      subst hc
      exact ⟨⟨0, q, m, x0, x1, x2, x3, x4, x5, x6, x7, b, 0⟩, h1⟩
    obtain ⟨q, hq⟩ := choose_lt each
    have hlen : ((List.range len).map q).length = len := by simp
    refine ⟨(List.range len).map q, some a, m, by rw [hlen], fun _ => ⟨a, rfl⟩, fun k s hk ad e => ?_⟩
    cases e
    have hkl : k < len := by have := (List.getElem?_eq_some_iff.1 hk).1; omega
    rw [List.getElem?_map, List.getElem?_range hkl] at hk
    obtain rfl := Option.some.inj hk
    obtain ⟨_, _, hcell⟩ := World.cells?_some (hq k hkl)
    have hc : ∀ j u, (q k).fcells.toList[j]? = some u → W.cell? ((a.add (k * 11)).add j) = some u := fun j u hu => by
      have hj : j < 11 := (List.getElem?_eq_some_iff.1 hu).1
      have h5 := hcell j hj
      first | exact h5.trans hu | (rw [h5]; exact hu)
    have hz : ∀ j, 0 < j → (a.add (k * 11)).add j = ⟨(a.add (k * 11)).block, (a.add (k * 11)).off + j, none⟩ := fun j hj => by
      unfold Addr.add
      rw [if_neg (by omega)]
    have hd : ∀ j u, 0 < j → (q k).fcells.toList[j]? = some u → W.cell? ⟨(a.add (k * 11)).block, (a.add (k * 11)).off + j, none⟩ = some u := fun j u hj hu => by
      rw [← hz j hj]
      exact hc j u hu
    refine ⟨?_, hd 1 _ (by decide) rfl, hd 2 _ (by decide) rfl, hd 3 _ (by decide) rfl, hd 4 _ (by decide) rfl, hd 5 _ (by decide) rfl, hd 6 _ (by decide) rfl, hd 7 _ (by decide) rfl, hd 8 _ (by decide) rfl, hd 9 _ (by decide) rfl, hd 10 _ (by decide) rfl⟩
    have h0 := hc 0 _ rfl
    have h1 : ∀ x : Addr, x.add 0 = x := fun x => by unfold Addr.add; rw [if_pos rfl]
    rw [h1] at h0
    exact h0
/-- A row of numbers. -/
theorem open_zs {v : Value} {d : DataW H} {p : List MemPlace} (h : DataW.Trod enc Try.prog W 0 (fun _ => true) held 23 v d p) (hv : v.cells.toList = [v]) :
    ∃ (l : List Int) (A : Option Addr) (c : Nat), v = .slice A l.length c ∧ IntsAt W A l := by
  obtain ⟨fuel, hf⟩ := h
  rw [hv] at hf
  rcases open_slice Try.underlying23 hf with ⟨hcs, hx⟩ | ⟨a, len, cap, m, n, D, Pl, hcs, _, hl, hm, hmm, hx, hel⟩
  · injection hcs with hcs
    subst hcs
    exact ⟨[], none, 0, rfl, fun h => absurd h (Nat.lt_irrefl 0), fun k s hk => by simp at hk⟩
  · injection hcs with hcs
    subst hcs
    rw [if_pos rfl] at hmm
    subst hmm
    rw [cells_i] at hel
    have each : ∀ i, i < len → ∃ z : Int, W.cells? 0 (a.add (i * 1)) 1 = some [.int .i64 z] := by
      intro i hi
      obtain ⟨cs', h1, h2⟩ := hel i (by omega)
      obtain ⟨z, hz, -, -⟩ := DataW.trod_int Try.underlying3 h2
      exact ⟨z, by rw [h1, hz]⟩
    obtain ⟨q, hq⟩ := choose_lt each
    have hlen : ((List.range len).map q).length = len := by simp
    refine ⟨(List.range len).map q, some a, m, by rw [hlen], fun _ => ⟨a, rfl⟩, fun k z hk ad e => ?_⟩
    cases e
    have hkl : k < len := by have := (List.getElem?_eq_some_iff.1 hk).1; omega
    rw [List.getElem?_map, List.getElem?_range hkl] at hk
    obtain rfl := Option.some.inj hk
    obtain ⟨_, _, hcell⟩ := World.cells?_some (hq k hkl)
    have h5 := hcell 0 (by decide)
    have h1 : ∀ x : Addr, x.add 0 = x := fun x => by unfold Addr.add; rw [if_pos rfl]
    rw [h1, Nat.mul_one] at h5
    exact h5
end
end Go.Proofs.Ytnjmohdfnicpdaa.Bus
