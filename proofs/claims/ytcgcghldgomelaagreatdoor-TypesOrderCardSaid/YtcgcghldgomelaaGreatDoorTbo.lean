/- The table of types, as the card lays it. -/
import Derived.Test.YtcgcghldgomelaaGreatDoorRows
import Derived.Test.YtcgcghldgomelaaGreatDoorTbl
import Derived.Laws.IdiomElems
import Derived.WideKeyElems2
import Derived.LaidMore
import Derived.ProofKit
import Derived.OpenShut
import Derived.Stop.Joined
namespace Go.Proofs.YtcgcghldgomelaaGreatDoor.Mp
open Go.ChangeShapes Go.WideShapes Go.ChangeAt Go.WideElems Go.RowKit
open Go.Proofs.YtcgcghldgomelaaGreatDoor.Rng

def tys : List Int := [1, 2, 3, 4, 5, 6, 7, 8, 9, 10, 12, 13, 15, 16, 17, 21, 22, 27]
theorem tys_all {t : Int} (h : knd t ≠ 0) : t ∈ tys := by
  have := form_cases t
  simp only [tys, List.mem_cons, List.not_mem_nil, or_false]
  omega
theorem tys_in {t : Int} (h : t ∈ tys) : (0 ≤ t ∧ t < 256) ∧ knd t ≠ 0 := by
  simp only [tys, List.mem_cons, List.not_mem_nil, or_false] at h
  rcases h with rfl | rfl | rfl | rfl | rfl | rfl | rfl | rfl | rfl | rfl | rfl | rfl | rfl | rfl | rfl | rfl | rfl | rfl <;> decide
def rowD (H : Type) (t : Int) : Lit × DataW H := (.int .u8 t, .agg [.lit (.int .u8 (knd t)), .lit (.int .i64 (siz t))])
theorem laid_eq (H : Type) : Rows.laid_campanile_types_table (H := H) = .map (tys.map (rowD H)) := rfl
theorem cells_form : Tryz.prog.cellsOf 60 = 2 := by kernel_rfl
theorem cells_8 : Tryz.prog.cellsOf 5 = 1 := by kernel_rfl
theorem cells_64 : Tryz.prog.cellsOf 3 = 1 := by kernel_rfl
theorem gTable : Tryz.prog.globalNamed "campanile/types.table" = some 0 := by kernel_rfl
theorem tTable : (Tryz.prog.globals[0]?).map (·.type) = some 61 := by kernel_rfl
set_option maxRecDepth 100000 in
theorem tbl_of_laid {W : World} (h : laidMetH Tryz.prog [("campanile/types.table", Rows.laid_campanile_types_table)] W) : Tbl W := by
  rw [MakeChecks.laidMetH_plain _ _ _ (by kernel_rfl)] at h
  obtain ⟨ps, ⟨g0, t0, cs0, f0, p0, q0, hg0, ht0, hv0, hd0, _, _⟩, _, _⟩ := h
  obtain rfl := Option.some.inj (gTable.symm.trans hg0)
  obtain rfl := Option.some.inj (tTable.symm.trans ht0)
  rcases open_map Tryz.underlying61 hd0 with ⟨_, hx⟩ | ⟨bm, es, clock, m, rfl, hcs, hb, _, F, hx⟩
  · rw [laid_eq] at hx
    simp at hx
  rw [laid_eq] at hx
  simp only [Prod.mk.injEq, DataW.map.injEq] at hx
  have hperm := hx.1 ▸ sorted_perm (es.toList.map (rg Tryz.prog 5 (elemAt _ Tryz.prog W 0 _ _ m 60)))
  have hlen := hperm.length_eq
  have hone : ∀ x ∈ es.toList, ∃ t ∈ tys, rg Tryz.prog 5 (elemAt (fun _ => ()) Tryz.prog W 0 (fun _ => true) false m 60) x = rowD Unit t ∧ x.key = .int .u8 t ∧ x.val = .agg #[.int .u8 (knd t), .int .i64 (siz t)] := by
    intro x hx
    have hm := hperm.mem_iff.2 (List.mem_map.2 ⟨x, hx, rfl⟩)
    obtain ⟨t, ht, he⟩ := List.mem_map.1 hm
    obtain ⟨y, hy⟩ := F.reads x hx
    rw [rg_of hy] at he
    have hk := rd_key hy
    obtain ⟨z, hz, hz2⟩ := rd_val hy
    rw [← he] at hk hz2
    have hb := tys_in ht
    obtain ⟨a, b, hv, rfl, -, -⟩ := elemAt_pair Tryz.underlying60 rfl rfl Tryz.underlying5 Tryz.underlying3 cells_8 cells_64 cells_form hz
    simp only [rowD, DataW.agg.injEq, List.cons.injEq, DataW.lit.injEq, Lit.int.injEq, true_and, and_true] at hz2
    obtain ⟨rfl, rfl⟩ := hz2
    exact ⟨t, ht, by rw [rg_of hy, he], law_u8.inj hk (key_u8 hb.1), hv⟩
  have hcell : W.cell? ⟨0, 0, none⟩ = some (.map (some bm)) := by
    have := World.var?_cell hg0 hv0 0
    rw [Array.eq_one_of_toList hcs] at this
    simpa using this
  refine ⟨bm, (Array.getElem?_eq_some_iff.1 hb).1, World.block_lt_of_cell? W _ hcell, hcell, es, clock, hb, F.stamped, ?_, F.keys, ?_, ?_⟩
  · simp [tys] at hlen
    omega
  · intro x hx
    obtain ⟨t, ht, _, hk, hv⟩ := hone x hx
    rw [hk, hv]
    simp [tblF, (tys_in ht).2]
  · intro key v hf
    unfold tblF at hf
    split at hf
    · rename_i t
      split at hf
      · cases hf
      · rename_i hk
        injection hf with hf
        have hm : rowD Unit t ∈ tys.map (rowD Unit) := List.mem_map.2 ⟨t, tys_all hk, rfl⟩
        obtain ⟨x, hx, he⟩ := List.mem_map.1 (hperm.mem_iff.1 hm)
        obtain ⟨t', _, e1, e2, e3⟩ := hone x hx
        rw [he] at e1
        have : t = t' := by
          have := congrArg Prod.fst e1
          simpa [rowD] using this
        subst this
        exact ⟨x, hx, e2, e3.trans hf⟩
    · cases hf
/-- The door's own heap meets the condition. -/
theorem door_met (os : Os) (args : Array Value) : laidMetH Tryz.prog [("campanile/types.table", Rows.laid_campanile_types_table)] ((World.doorLaid Tryz.prog 400 os).forCall (fun _ _ => 0) ⟨#[], args, []⟩).memory :=
  laidMetH_of_parts3 (fuel := 8) (laidMet_of_run' 8 (by kernel_rfl) (by kernel_rfl)) (by kernel_rfl) (by kernel_rfl)
end Go.Proofs.YtcgcghldgomelaaGreatDoor.Mp
