/- Bytes as a string. -/
import Derived.Test.YtcgcghldgomelaaGreatDoorKim
import Derived.Test.YtcgcghldgomelaaGreatDoorTch
import Derived.Laws.BytesArg
namespace Go.Proofs.YtcgcghldgomelaaGreatDoor.Mp
open Go.RowKit Go.Shelf Go.Proofs.YtcgcghldgomelaaGreatDoor.Rng Go.Proofs.YtcgcghldgomelaaGreatDoorW.PrintWords Go.Proofs.YtcgcghldgomelaaGreatDoorW.PrintMore Go.Proofs.YtcgcghldgomelaaGreatDoorW.PrintLast

theorem str_at {w : World} {A : Option Addr} {n c : Nat} {zs : List Int} (h : kB.C w A n zs) (X : World) (hb : Below w.heap.size w X) : (convert 22 9 (.slice A n c)).run Tryz.prog X = .ok (.string (strOfNums zs)) X :=
  Kd.C_string (P := Tryz.prog) Tryz.underlying22 Tryz.underlying5 Tryz.underlying9 (Kd.C_below h hb)
theorem str_rd {w : World} {A : Option Addr} {zs : List Int} (h : Rd w A zs) (n c : Nat) (hn : zs.length = n) (s : ByteArray) (hs : strOfNums zs = s) : (convert 22 9 (.slice A n c)).run Tryz.prog w = .ok (.string s) w := by
  subst hn hs
  exact str_at (Rd_C h) w (Below.refl _ _)
/-- Bytes as a string, and back: a row of its own. -/
theorem conv_sb (W : World) {zs : List Int} {n : Nat} (hB : Byt zs) (hn : zs.length = n) (h64 : n ≤ 1000) : ∃ cap W', (convert 9 22 (.string (strOfNums zs))).run Tryz.prog W = .ok (.slice (some ⟨W.heap.size, 0, none⟩) n cap) W' ∧ Arg W' (some ⟨W.heap.size, 0, none⟩) cap zs ∧ Below W.heap.size W W' := by
  have hsz : (strOfNums zs).size = n := by rw [strOfNums_size, hn]
  refine ⟨_, _, by rw [← hsz]; exact Lib.run_convert_string_bytes W 9 22 5 (strOfNums zs) Tryz.underlying9 Tryz.underlying22 Tryz.underlying5, ⟨⟨by omega, fun _ => ⟨_, rfl, fun j hj => ?_⟩⟩, hB, ?_, ?_⟩, ?_⟩
  · rw [add_plain, Lib.bytesWorld_cell W 5 (strOfNums zs) j (by omega)]
    rw [List.getD_eq_getElem?_getD, strOfNums_data, List.getElem?_map, List.getElem?_eq_getElem hj]
    have hx := hB zs[j] (List.getElem_mem hj)
    show some (Value.int .u8 ((UInt8.ofNat zs[j].toNat).toNat : Int)) = some (Value.int .u8 zs[j])
    rw [UInt8.toNat_ofNat']
    congr 2
    omega
  · rw [hn, ← hsz]
    exact grownCap_ge _ _ _ _
  · exact grownCap_le_maxLen _ _ _ _ (by simp [maxLen]; omega)
  · refine ⟨rfl, rfl, rfl, by rw [Lib.bytesWorld_size]; omega, fun k hk => Lib.bytesWorld_at_old W 5 _ k hk⟩
end Go.Proofs.YtcgcghldgomelaaGreatDoor.Mp
