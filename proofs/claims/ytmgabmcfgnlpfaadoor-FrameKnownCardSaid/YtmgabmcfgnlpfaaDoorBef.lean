/- Before, of both. -/
import Derived.Test.YtmgabmcfgnlpfaaDoorRow
namespace Go.Proofs.YtmgabmcfgnlpfaaDoor.Frm
open Go.RowKit Go.Proofs.YtmgabmcfgnlpfaaDoorW.PrintWords Go.Proofs.YtmgabmcfgnlpfaaDoorW.PrintMore Go.Proofs.YtmgabmcfgnlpfaaDoorW.PrintLast

/-- Which of two goes first. -/
def bef (i : Int) (b : Bool) (i' : Int) (b' : Bool) : Bool := decide (i < i') || (decide (i = i') && !b && b')
set_option maxHeartbeats 2000000 in
set_option maxRecDepth 100000 in
theorem fbefore_any (i n x0 x1 x2 x3 x4 x5 x6 x7 : Int) (b : Bool) (i' n' y0 y1 y2 y3 y4 y5 y6 y7 : Int) (b' : Bool) (w : World) :
    Calls Tryd.prog 12 #[.agg #[.int .u16 i, .int .i64 n, .int .u8 x0, .int .u8 x1, .int .u8 x2, .int .u8 x3, .int .u8 x4, .int .u8 x5, .int .u8 x6, .int .u8 x7, .bool b], .agg #[.int .u16 i', .int .i64 n', .int .u8 y0, .int .u8 y1, .int .u8 y2, .int .u8 y3, .int .u8 y4, .int .u8 y5, .int .u8 y6, .int .u8 y7, .bool b']] w fun e w' =>
      e = .returned (.bool (bef i b i' b')) ∧ Below w.heap.size w w' := by
  obtain ⟨q, hq⟩ : ∃ q, bef i b i' b' = q := ⟨_, rfl⟩
  rw [hq]
  by_cases h1 : i < i'
  · have HQ := Aside0.mk (show q = true by rw [← hq]; simp [bef, h1])
    clear hq
    have h2 : ¬ i = i' := by omega
    go_enter Tryd.func12, Tryd.ntmps12
    go_wp2
    go_ret
    exact ⟨by rw [HQ.out]; rfl, two_below w _ _ 0⟩
  · by_cases h2 : i = i'
    · have HQ := Aside0.mk (show q = (!b && b') by rw [← hq]; simp [bef, h2])
      clear hq
      rcases b with _ | _ <;> rcases b' with _ | _
      all_goals
        go_enter Tryd.func12, Tryd.ntmps12
        go_wp2
        go_ret
        exact ⟨by rw [HQ.out]; rfl, two_below w _ _ 0⟩
    · have HQ := Aside0.mk (show q = false by rw [← hq]; simp [bef, h1, h2])
      clear hq
      go_enter Tryd.func12, Tryd.ntmps12
      go_wp2
      go_ret
      exact ⟨by rw [HQ.out]; rfl, two_below w _ _ 0⟩
set_option maxHeartbeats 2000000 in
set_option maxRecDepth 100000 in
theorem rbefore_any (i n x0 x1 x2 x3 x4 x5 x6 x7 : Int) (b : Bool) (i' n' y0 y1 y2 y3 y4 y5 y6 y7 : Int) (b' : Bool) (w : World) :
    Calls Tryd.prog 13 #[.agg #[.int .u16 i, .int .i64 n, .int .u8 x0, .int .u8 x1, .int .u8 x2, .int .u8 x3, .int .u8 x4, .int .u8 x5, .int .u8 x6, .int .u8 x7, .bool b], .agg #[.int .u16 i', .int .i64 n', .int .u8 y0, .int .u8 y1, .int .u8 y2, .int .u8 y3, .int .u8 y4, .int .u8 y5, .int .u8 y6, .int .u8 y7, .bool b']] w fun e w' =>
      e = .returned (.bool (bef i b i' b')) ∧ Below w.heap.size w w' := by
  obtain ⟨q, hq⟩ : ∃ q, bef i b i' b' = q := ⟨_, rfl⟩
  rw [hq]
  by_cases h1 : i < i'
  · have HQ := Aside0.mk (show q = true by rw [← hq]; simp [bef, h1])
    clear hq
    have h2 : ¬ i = i' := by omega
    go_enter Tryd.func13, Tryd.ntmps13
    go_wp2
    go_ret
    exact ⟨by rw [HQ.out]; rfl, two_below w _ _ 0⟩
  · by_cases h2 : i = i'
    · have HQ := Aside0.mk (show q = (!b && b') by rw [← hq]; simp [bef, h2])
      clear hq
      rcases b with _ | _ <;> rcases b' with _ | _
      all_goals
        go_enter Tryd.func13, Tryd.ntmps13
        go_wp2
        go_ret
        exact ⟨by rw [HQ.out]; rfl, two_below w _ _ 0⟩
    · have HQ := Aside0.mk (show q = false by rw [← hq]; simp [bef, h1, h2])
      clear hq
      go_enter Tryd.func13, Tryd.ntmps13
      go_wp2
      go_ret
      exact ⟨by rw [HQ.out]; rfl, two_below w _ _ 0⟩
end Go.Proofs.YtmgabmcfgnlpfaaDoor.Frm
