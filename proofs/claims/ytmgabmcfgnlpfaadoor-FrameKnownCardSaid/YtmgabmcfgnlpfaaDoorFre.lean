/- frame.Read: any text. -/
import Derived.Test.YtmgabmcfgnlpfaaDoorFrb
namespace Go.Proofs.YtmgabmcfgnlpfaaDoor.Frm
open Go.RowKit Go.Proofs.YtmgabmcfgnlpfaaDoorW.PrintWords Go.Proofs.YtmgabmcfgnlpfaaDoorW.PrintMore Go.Proofs.YtmgabmcfgnlpfaaDoorW.PrintLast

theorem index_succ {x : UInt8} {l : List UInt8} {c : UInt8} {n : Int} (hn : 0 ≤ n) (h : Lib.indexByte (x :: l) c = n + 1) : Lib.indexByte l c = n := by
  have h1 := Lib.indexByte_ge l c
  rw [Lib.indexByte] at h
  split at h
  · omega
  · split at h <;> omega
theorem index_zero {x : UInt8} {l : List UInt8} {c : UInt8} (h : Lib.indexByte (x :: l) c = 0) : x = c := by
  have h1 := Lib.indexByte_ge l c
  rw [Lib.indexByte] at h
  split at h
  · rename_i h2
    simpa using h2
  · split at h
    · omega
    · rename_i h3
      have h4 : Lib.indexByte l c = -1 := by omega
      rw [h4] at h3
      exact absurd rfl h3
theorem index_three {l : List UInt8} (h : Lib.indexByte l 35 = 3) : ∃ a b c r, l = a :: b :: c :: 35 :: r := by
  match l, h with
  | [], h => simp [Lib.indexByte] at h
  | [a], h => exact absurd (index_succ (n := 2) (by omega) h) (by simp [Lib.indexByte])
  | [a, b], h => exact absurd (index_succ (n := 1) (by omega) (index_succ (n := 2) (by omega) h)) (by simp [Lib.indexByte])
  | [a, b, c], h => exact absurd (index_succ (n := 0) (by omega) (index_succ (n := 1) (by omega) (index_succ (n := 2) (by omega) h))) (by simp [Lib.indexByte])
  | a :: b :: c :: d :: r, h =>
    have := index_zero (index_succ (n := 0) (by omega) (index_succ (n := 1) (by omega) (index_succ (n := 2) (by omega) h)))
    exact ⟨a, b, c, r, by rw [this]⟩
theorem head_none {s : ByteArray} (h : ¬ headOk s) : Reads s.data.toList fm0 30 := by
  refine reads_none fun g hw hr hg => h ?_
  obtain ⟨a, b, c, r, h1, ha, hb, hc, hid, _⟩ := wr_shape hw hr
  rw [hg] at h1
  refine ⟨hash3 h1 ha hb hc, ?_, ?_⟩
  · rw [head_list h1]
    intro j hj
    match j, hj with
    | 0, _ => exact ha
    | 1, _ => exact hb
    | 2, _ => exact hc
  · rw [head_list h1, num3 ha hb hc, hid]
    exact hr.1
theorem read_any (s : ByteArray) (w : World) (h63 : s.size ≤ 9223372036854775807) :
    Calls Tryd.prog 7 #[.string s] w fun e w' => (∃ f k, e = .returned (.tuple #[.agg (Fm.cells f), .int .i64 k]) ∧ Reads s.data.toList f k) ∧ Below w.heap.size w w' := by
  by_cases hok : headOk s
  · obtain ⟨h1, h2, h3⟩ := hok
    obtain ⟨a, b, c, r, hl⟩ := index_three h1
    rw [head_list hl] at h2 h3
    have ha : isHex a := h2 0 (by omega)
    have hb : isHex b := h2 1 (by omega)
    have hc : isHex c := h2 2 (by omega)
    by_cases h82 : ∀ m, r = 82 :: m → False
    · exact read_data s w h63 a b c r hl h82 ha hb hc h3
    · rw [Classical.not_forall] at h82
      obtain ⟨m, hm⟩ := h82
      obtain rfl : r = 82 :: m := Classical.not_not.1 hm
      exact read_ask s w h63 a b c m hl ha hb hc h3
  · refine (read_head s w h63 hok).mono ?_
    rintro e w' ⟨rfl, hb⟩
    exact ⟨⟨fm0, 30, rfl, head_none hok⟩, hb⟩
end Go.Proofs.YtmgabmcfgnlpfaaDoor.Frm
