/- A row of bytes as an argument: what it reads. -/
import Derived.Test.YtmgabmcfgnlpfaaDoorOpf
import Derived.Test.YtmgabmcfgnlpfaaDoorDat
import Derived.Deep.Slices
import Derived.ChangeSlices
import Derived.ProofKit
import Derived.SizedLaws
namespace Go.Proofs.YtmgabmcfgnlpfaaDoor.Frm
open Go.RowKit Go.ChangeShapes Go.WideShapes Go.Deep
section
variable {H : Type} {enc : TypeId × Value → H} {W : World} {held : Bool}
/-- A row of bytes. -/
theorem open_bs {fuel : Nat} {v : Value} {d : DataW H} {p : List MemPlace} (h : DataW.trod enc Tryd.prog W 0 (fun _ => true) held fuel 36 [v] = some (d, p)) :
    ∃ (zs : List Int) (A : Option Addr) (c : Nat), v = .slice A zs.length c ∧ zs.length ≤ c ∧ kB.C W A zs.length zs ∧ (∀ x ∈ zs, 0 ≤ x ∧ x < 256) := by
  rcases open_ints Tryd.underlying36 Tryd.underlying5 cells_u8 h with ⟨hcs, hx⟩ | ⟨a, len, cap, zs, hcs, _, hl, hm, hz, hx, hcell, hw⟩
  · injection hcs with hcs
    subst hcs
    exact ⟨[], none, 0, rfl, Nat.le_refl _, Rd_C (by simp) (fun h => by simp at h), (by intro x hx; cases hx)⟩
  · injection hcs with hcs
    subst hcs
    rw [if_pos rfl] at hz
    have hlen : (zs.take len).length = len := by rw [List.length_take]; omega
    have hmx : maxLen = 9223372036854775807 := rfl
    refine ⟨zs.take len, some a, cap, by rw [hlen], by omega, Rd_C (by omega) fun _ => ⟨a, rfl, fun j hj => ?_⟩, fun x hx' => ?_⟩
    · rw [hcell j (by omega), List.getElem?_eq_getElem hj, List.getElem_take, List.getD_eq_getElem?_getD, List.getElem?_eq_getElem (by omega)]
    · have := hw x (List.mem_of_mem_take hx')
      exact wf_u8 this
end
end Go.Proofs.YtmgabmcfgnlpfaaDoor.Frm
