/- Settings as an argument: what they read. -/
import Derived.Test.YteflphhdafhapaaWks
import Derived.Deep.Slices
import Derived.ChangeSlices
import Derived.ProofKit
import Derived.SizedLaws
namespace Go.Proofs.Yteflphhdafhapaa.Rng
open Go.RowKit Go.Shelf Go.Proofs.YteflphhdafhapaaW.PrintWords Go.Proofs.YteflphhdafhapaaW.PrintMore
open Go.ChangeShapes Go.WideShapes Go.Deep

theorem cells_sg : Try.prog.cellsOf 45 = 3 := by kernel_rfl
theorem cells_pl : Try.prog.cellsOf 43 = 2 := by kernel_rfl
theorem cells_u16 : Try.prog.cellsOf 41 = 1 := by kernel_rfl
theorem cells_u8 : Try.prog.cellsOf 5 = 1 := by kernel_rfl
theorem cells_bs : Try.prog.cellsOf 25 = 1 := by kernel_rfl
theorem bytes_u8 : Try.prog.bytesOf 5 = 1 := by kernel_rfl

theorem mem_weightsAll {H : Type} {P : Program} {e : TypeId} {ds : List (DataW H)} {d : DataW H} {n : Nat} (hd : d ∈ ds) (hn : n ∈ d.weights P e) : n ∈ DataW.weightsAll P e ds := by
  induction ds with
  | nil => cases hd
  | cons y r ih =>
    simp only [DataW.weightsAll, List.mem_append]
    rcases List.mem_cons.1 hd with rfl | hd
    · exact .inl hn
    · exact .inr (ih hd)
section
variable {H : Type} {enc : TypeId × Value → H} {W : World} {held : Bool}
/-- A row of bytes. -/
theorem open_bs {fuel : Nat} {v : Value} {d : DataW H} {p : List MemPlace} (h : DataW.trod enc Try.prog W 0 (fun _ => true) held fuel 25 [v] = some (d, p)) :
    ∃ (zs : List Int) (A : Option Addr) (c : Nat), v = .slice A zs.length c ∧ zs.length ≤ c ∧ kB.C W A zs.length zs ∧ Bytes zs ∧ ((∀ n ∈ d.weights Try.prog 25, n ≤ reachBytes) → zs.length ≤ reachBytes) := by
  rcases open_ints Try.underlying25 Try.underlying5 cells_u8 h with ⟨hcs, hx⟩ | ⟨a, len, cap, zs, hcs, _, hl, hm, hz, hx, hcell, hw⟩
  · injection hcs with hcs
    subst hcs
    exact ⟨[], none, 0, rfl, Nat.le_refl _, Rd_C ⟨by simp, fun h => by simp at h⟩, (by intro x hx; cases hx), fun _ => Nat.zero_le _⟩
  · injection hcs with hcs
    subst hcs
    rw [if_pos rfl] at hz
    have hlen : (zs.take len).length = len := by rw [List.length_take]; omega
    have hmx : maxLen = 9223372036854775807 := rfl
    refine ⟨zs.take len, some a, cap, by rw [hlen], by omega, Rd_C ⟨by omega, fun _ => ⟨a, rfl, fun j hj => ?_⟩⟩, fun x hx' => ?_, fun hwt => ?_⟩
    · rw [hcell j (by omega), List.getD_eq_getElem?_getD, List.getElem?_take, if_pos (by omega)]
    · have := hw x (List.mem_of_mem_take hx')
      have h1 : IntKind.u8.min = 0 := rfl
      have h2 : IntKind.u8.max = 255 := rfl
      simp [Lit.wf] at this
      omega
    · obtain ⟨hx, _⟩ := Prod.mk.inj hx
      subst hx
      have h1 := hwt ((lits (H := H) .u8 (zs.take len)).length * 1 + (lits (H := H) .u8 (zs.drop len)).length * 1) (by
        simp only [DataW.weights, Try.underlying25, bytes_u8]
        exact List.mem_cons.2 (.inl (by omega)))
      have h2 : (lits (H := H) .u8 (zs.take len)).length = (zs.take len).length := by simp [lits]
      omega
/-- One setting. -/
theorem open_sg {fuel : Nat} {cs : List Value} {d : DataW H} {p : List MemPlace} (h : DataW.trod enc Try.prog W 0 (fun _ => true) held fuel 45 cs = some (d, p)) :
    ∃ (x : Sg) (A : Option Addr) (c : Nat), cs = [.int .u16 x.1.1, .int .u8 x.1.2, .slice A x.2.length c] ∧ x.2.length ≤ c ∧ kB.C W A x.2.length x.2 ∧ Bytes x.2 ∧ (Lit.int .u16 x.1.1).wf = true ∧ (Lit.int .u8 x.1.2).wf = true ∧
      ((∀ n ∈ d.weights Try.prog 45, n ≤ reachBytes) → x.2.length ≤ reachBytes) := by
  obtain ⟨xs, n, rfl, hx, hcl, hxl, hf⟩ := DataW.trod_struct Try.underlying45 h
  rw [cells_sg] at hcl
  match xs, hxl, cs, hcl with
  | [y0, y1], _, [c0, c1, c2], _ =>
    have g0 := hf 0 _ rfl
    have g1 := hf 1 _ rfl
    simp [cells_pl, cells_bs] at g0 g1
    obtain ⟨zs, n2, rfl, hz, _, hzl, hg⟩ := DataW.trod_struct Try.underlying43 g0
    match zs, hzl with
    | [z0, z1], _ =>
      have e0 := hg 0 _ rfl
      have e1 := hg 1 _ rfl
      simp [cells_u16, cells_u8] at e0 e1
      obtain ⟨i0, hi0, -, w0⟩ := DataW.trod_int Try.underlying41 e0
      obtain ⟨i1, hi1, -, w1⟩ := DataW.trod_int Try.underlying5 e1
      injection hi0 with hi0
      injection hi1 with hi1
      subst hi0 hi1
      obtain ⟨d1, p1⟩ := y1
      obtain ⟨bs, A, c, rfl, hl, hC, hB, hw⟩ := open_bs g1
      refine ⟨((i0, i1), bs), A, c, rfl, hl, hC, hB, w0, w1, fun hwt => hw fun n hn => hwt n ?_⟩
      obtain ⟨hd, _⟩ := Prod.mk.inj hx
      subst hd
      simp only [DataW.weights, Try.underlying45, List.map_cons, List.map_nil]
      simp only [DataW.weightsEach, List.mem_append]
      exact .inr (.inl hn)
/-- A row of settings. -/
theorem open_sgs {v : Value} {d : DataW H} {p : List MemPlace} (h : DataW.Trod enc Try.prog W 0 (fun _ => true) held 22 v d p) (hv : v.cells.toList = [v]) (hwt : ∀ n ∈ d.weights Try.prog 22, n ≤ reachBytes) :
    ∃ (xs : List Sg) (A : Option Addr) (c : Nat), v = .slice A xs.length c ∧ xs.length ≤ c ∧ kS.C W A xs.length xs ∧ (∀ x ∈ xs, Bytes x.2 ∧ (Lit.int .u16 x.1.1).wf = true ∧ (Lit.int .u8 x.1.2).wf = true ∧ x.2.length ≤ reachBytes) ∧ xs.length ≤ reachBytes := by
  obtain ⟨fuel, hf⟩ := h
  rw [hv] at hf
  rcases open_slice Try.underlying22 hf with ⟨hcs, hx⟩ | ⟨a, len, cap, m, n, D, Pl, hcs, _, hl, hm, hmm, hx, hel⟩
  · injection hcs with hcs
    subst hcs
    refine ⟨[], none, 0, rfl, Nat.le_refl _, ⟨rfl, by simp, fun h => by simp at h⟩, (by intro x hx; cases hx), Nat.zero_le _⟩
  · injection hcs with hcs
    subst hcs
    rw [if_pos rfl] at hmm
    subst hmm
    rw [cells_sg] at hel hx
    obtain ⟨hd, -⟩ := Prod.mk.inj hx
    subst hd
    have hbe : Try.prog.bytesOf 45 = 32 := by kernel_rfl
    have hwl : len ≤ reachBytes := by
      have h1 := hwt _ (by
        simp only [DataW.weights, Try.underlying22]
        exact List.mem_cons.2 (.inl rfl))
      rw [hbe] at h1
      simp only [List.length_map, List.length_range] at h1
      omega
    have each : ∀ i, i < len → ∃ q : Sg × Option Addr × Nat, W.cells? 0 (a.add (i * 3)) 3 = some [.int .u16 q.1.1.1, .int .u8 q.1.1.2, .slice q.2.1 q.1.2.length q.2.2] ∧ q.1.2.length ≤ q.2.2 ∧ kB.C W q.2.1 q.1.2.length q.1.2 ∧ Bytes q.1.2 ∧ (Lit.int .u16 q.1.1.1).wf = true ∧ (Lit.int .u8 q.1.1.2).wf = true ∧ q.1.2.length ≤ reachBytes := by
      intro i hi
      obtain ⟨cs', h1, h2⟩ := hel i (by omega)
      obtain ⟨x, A, c, rfl, hl2, hC, hB, w0, w1, hw⟩ := open_sg h2
      refine ⟨(x, A, c), h1, hl2, hC, hB, w0, w1, hw fun n hn => hwt n ?_⟩
      simp only [DataW.weights, Try.underlying22]
      refine List.mem_cons.2 (.inr (List.mem_append.2 (.inl ?_)))
      exact mem_weightsAll (List.mem_map.2 ⟨i, List.mem_range.2 hi, rfl⟩) hn
    obtain ⟨q, hq⟩ := choose_lt each
    have hlen : ((List.range len).map fun i => (q i).1).length = len := by simp
    refine ⟨(List.range len).map fun i => (q i).1, some a, m, by rw [hlen], by omega, ?_, fun x hx => ?_, by omega⟩
    · rw [hlen]
      have hmx : maxLen = 9223372036854775807 := rfl
      refine ⟨hlen, by omega, fun _ => ⟨a, rfl, fun j x hj => ?_⟩⟩
      have hjl : j < len := by have := (List.getElem?_eq_some_iff.1 hj).1; omega
      obtain ⟨h1, h2, h3, _⟩ := hq j hjl
      have hxe : x = (q j).1 := by
        rw [List.getElem?_map, List.getElem?_range hjl] at hj
        exact (Option.some.inj hj).symm
      subst hxe
      refine ⟨_, rfl, ⟨[.int .u16 (q j).1.1.1, .int .u8 (q j).1.1.2], [.slice (q j).2.1 (q j).1.2.length (q j).2.2], rfl, ⟨[.int .u16 (q j).1.1.1], [.int .u8 (q j).1.1.2], rfl, rfl, rfl⟩, ⟨(q j).2.1, (q j).2.2, rfl, h2, h3⟩⟩, fun i u hu => ?_⟩
      obtain ⟨_, _, hcell⟩ := World.cells?_some h1
      have hi3 : i < 3 := by have := (List.getElem?_eq_some_iff.1 hu).1; simpa using this
      have h5 := hcell i (by simpa using hi3)
      rw [Go.Deep.add_add] at h5
      rw [show (Kd.pair (Kd.pair (Kd.int .u16) (Kd.int .u8)) (Kd.slice 5 kB)).sz = 3 from rfl]
      first | exact h5.trans hu | (rw [h5]; exact hu)
    · obtain ⟨i, hi, rfl⟩ := List.mem_map.1 hx
      obtain ⟨_, _, _, h4, h5, h6, h7⟩ := hq i (List.mem_range.1 hi)
      exact ⟨h4, h5, h6, h7⟩
end
end Go.Proofs.Yteflphhdafhapaa.Rng
