/- Bytes as an argument: what they read. -/
import Derived.Test.YtcgcghldgomelaaGreatDoorTbo
import Derived.Test.YtcgcghldgomelaaGreatDoorTch
import Derived.WideShapes
import Derived.Deep.Slices
import Derived.ChangeSlices
import Derived.ProofKit
import Derived.SizedLaws
namespace Go.Proofs.YtcgcghldgomelaaGreatDoor.Mp
open Go.RowKit Go.Shelf Go.Proofs.YtcgcghldgomelaaGreatDoor.Rng
open Go.ChangeShapes Go.WideShapes Go.Deep

theorem bytes_u8 : Tryz.prog.bytesOf 5 = 1 := by kernel_rfl
theorem wf_8 {n : Int} (h : (Lit.int .u8 n).wf = true) : 0 ≤ n ∧ n < 256 := by
  have := bounds_u8 h
  omega
/-- A row of bytes. -/
theorem open_bs {H : Type} {enc : TypeId × Value → H} {W : World} {held : Bool} {fuel : Nat} {v : Value} {d : DataW H} {p : List MemPlace} (h : DataW.trod enc Tryz.prog W 0 (fun _ => true) held fuel 22 [v] = some (d, p)) (hwt : ∀ n ∈ d.weights Tryz.prog 22, n ≤ reachBytes) :
    ∃ (zs : List Int) (A : Option Addr) (c : Nat), v = .slice A zs.length c ∧ Arg W A c zs ∧ zs.length ≤ 140737488355328 := by
  rcases open_ints Tryz.underlying22 Tryz.underlying5 cells_8 h with ⟨hcs, hx⟩ | ⟨a, len, cap, zs, hcs, _, hl, hm, hz, hx, hcell, hw⟩
  · injection hcs with hcs
    subst hcs
    exact ⟨[], _, _, rfl, ⟨⟨by simp, fun h => by simp at h⟩, fun x hx => by simp at hx, by simp, by omega⟩, by simp⟩
  · injection hcs with hcs
    subst hcs
    rw [if_pos rfl] at hz
    have hlen : (zs.take len).length = len := by rw [List.length_take]; omega
    have hmx : maxLen = 9223372036854775807 := rfl
    refine ⟨zs.take len, some a, cap, by rw [hlen], ⟨⟨by omega, fun _ => ⟨a, rfl, fun j hj => ?_⟩⟩, fun x hx' => ?_, by omega, by omega⟩, ?_⟩
    · rw [hcell j (by omega), List.getD_eq_getElem?_getD, List.getElem?_take, if_pos (by omega)]
    · exact wf_8 (hw x (List.mem_of_mem_take hx'))
    · obtain ⟨hx, _⟩ := Prod.mk.inj hx
      subst hx
      have h1 := hwt ((lits (H := H) .u8 (zs.take len)).length * 1 + (lits (H := H) .u8 (zs.drop len)).length * 1) (by
        simp only [DataW.weights, Tryz.underlying22, bytes_u8]
        exact List.mem_cons.2 (.inl (by omega)))
      have h2 : (lits (H := H) .u8 (zs.take len)).length = (zs.take len).length := by simp [lits]
      have h3 : reachBytes = 140737488351232 := rfl
      omega
end Go.Proofs.YtcgcghldgomelaaGreatDoor.Mp
