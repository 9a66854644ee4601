/- works: a frame there and back. -/
import Derived.Test.YtmgabmcfgnlpfaaDoorMak
import Derived.Test.YtmgabmcfgnlpfaaDoorBef
import Derived.Test.YtmgabmcfgnlpfaaDoorFwr
import Derived.Test.YtmgabmcfgnlpfaaDoorFre
namespace Go.Proofs.YtmgabmcfgnlpfaaDoor.Frm
open Go.RowKit Go.Proofs.YtmgabmcfgnlpfaaDoorW.PrintWords Go.Proofs.YtmgabmcfgnlpfaaDoorW.PrintMore Go.Proofs.YtmgabmcfgnlpfaaDoorW.PrintLast

theorem wk_rt : Rt ⟨385, 3, [1, 2, 255, 0, 0, 0, 0, 0], false⟩ := by
  refine ⟨by simp only; omega, by simp only; omega, by simp only; omega, ?_⟩
  have h : ∀ i : Nat, i < 8 → ([1, 2, 255, 0, 0, 0, 0, 0] : List Int)[i]?.getD 0 = 0 ∨ ((i : Int) < 3 ∧ false = false) := by decide
  exact h
theorem wk_wf : Wf ⟨385, 3, [1, 2, 255, 0, 0, 0, 0, 0], false⟩ := ⟨rfl, by decide, by decide⟩
theorem wk_wr : strOf (wrF ⟨385, 3, [1, 2, 255, 0, 0, 0, 0, 0], false⟩) = ⟨#[49, 56, 49, 35, 48, 49, 48, 50, 70, 70]⟩ := by
  have h : wrF ⟨385, 3, [1, 2, 255, 0, 0, 0, 0, 0], false⟩ = [49, 56, 49, 35, 48, 49, 48, 50, 70, 70] := by decide
  rw [h]
  rfl
theorem wk_read {f : Fm} {k : Int} (h : Reads [48, 48, 53, 35, 82, 52] f k) : f = ⟨5, 4, [0, 0, 0, 0, 0, 0, 0, 0], true⟩ ∧ k = 0 := by
  refine reads_one h (.inl ⟨⟨rfl, by decide, by decide⟩, ⟨by decide, by decide, by decide, ?_⟩, by decide, rfl⟩)
  have h : ∀ i : Nat, i < 8 → ([0, 0, 0, 0, 0, 0, 0, 0] : List Int)[i]?.getD 0 = 0 ∨ ((i : Int) < 4 ∧ true = false) := by decide
  exact h
theorem rd_lit3 (w : World) (t : TypeId) : Rd (w.alloc (.cells #[.int .u8 1, .int .u8 2, .int .u8 255] t)) (some ⟨w.heap.size, 0, none⟩) [1, 2, 255] := by
  intro _
  have h := World.alloc_heap_new w (.cells #[.int .u8 1, .int .u8 2, .int .u8 255] t)
  refine ⟨_, rfl, fun j hj => ?_⟩
  have h1 : (⟨w.heap.size, 0, none⟩ : Addr).add j = ⟨w.heap.size, j, none⟩ := by simp [Addr.add]; omega
  rw [h1]
  match j, hj with
  | 0, _ => exact blk_cell h 0
  | 1, _ => exact blk_cell h 1
  | 2, _ => exact blk_cell h 2
set_option maxHeartbeats 2000000 in
set_option maxRecDepth 100000 in
theorem works_any (w : World) : Calls Tryd.prog 9 #[] w fun e w' => e = .returned (.bool true) ∧ Below w.heap.size w w' := by
  go_enter Tryd.func9, Tryd.ntmps9
  go_wp2_with (first
    | (go_at_call 14; refine (fmake_any 385 (some ⟨w.heap.size, 0, none⟩) 3 [1, 2, 255] _ (rd_lit3 w _)).mono ?_; rintro e w1 ⟨(⟨_, rfl⟩ | ⟨hno, rfl⟩), hb⟩; rotate_left; exact absurd (show mkOk 385 [1, 2, 255] from ⟨by omega, by decide⟩) hno; have HB1 := Aside0.mk (after_call hb).2; clear hb; rw [show Fm.cells (mkF 385 [1, 2, 255]) = #[.int .u16 385, .int .i64 3, .int .u8 1, .int .u8 2, .int .u8 255, .int .u8 0, .int .u8 0, .int .u8 0, .int .u8 0, .int .u8 0, .bool false] from rfl])
    | (go_at_call 10; refine (fwrite_good 385 3 1 2 255 0 0 0 0 0 false _ wk_wf wk_rt).mono ?_; rintro e w2 ⟨rfl, hb⟩; have HF2 := Aside0.mk (after_call hb).1; have HB2 := Aside0.mk (HB1.out.trans ((after_call hb).2.mono HB1.out.size)); clear hb; rw [wk_wr])
    | (go_at_call 7; refine (read_any _ _ (by decide)).mono ?_; rintro e w3 ⟨⟨f, k, rfl, hrd⟩, hb⟩; obtain ⟨rfl, rfl⟩ := wk_read hrd; have HF3 := Aside0.mk (blk_below HF2.out hb); have HB3 := Aside0.mk (HB2.out.trans (hb.mono HB2.out.size)); clear hb hrd; obtain ⟨c0, c1, c2, c3, c4, c5, c6, c7, c8, c9, c10, _⟩ := fm_lit HF3.out; have hlt3 : w1.heap.size < w3.heap.size := blk_lt HF3.out; rw [show Fm.cells ⟨5, 4, [0, 0, 0, 0, 0, 0, 0, 0], true⟩ = #[.int .u16 5, .int .i64 4, .int .u8 0, .int .u8 0, .int .u8 0, .int .u8 0, .int .u8 0, .int .u8 0, .int .u8 0, .int .u8 0, .bool true] from rfl])
    | (go_at_call 11; refine (fright_any 385 3 1 2 255 0 0 0 0 0 false _).mono ?_; rintro e w4 ⟨(⟨rfl, _⟩ | ⟨rfl, hno⟩), hb⟩; rotate_left; exact absurd wk_rt hno; have HF4 := Aside0.mk (blk_below (blk_alloc HF3.out _) hb); have HH4 := Aside0.mk (after_call hb).1; have HB4 := Aside0.mk (HB3.out.trans ((after_call hb).2.mono HB3.out.size)); clear hb c0 c1 c2 c3 c4 c5 c6 c7 c8 c9 c10 hlt3; obtain ⟨c0, c1, c2, c3, c4, c5, c6, c7, c8, c9, c10, _⟩ := fm_lit HF4.out; obtain ⟨d0, d1, d2, d3, d4, d5, d6, d7, d8, d9, d10, _⟩ := fm_lit HH4.out)
    | (go_at_call 12; have hg := HF4.out; clear hg; refine (fbefore_any 5 4 0 0 0 0 0 0 0 0 true 385 3 1 2 255 0 0 0 0 0 false _).mono ?_; rintro e w5 ⟨rfl, hb⟩; have HF5 := Aside0.mk (blk_below HF4.out hb); have HH5 := Aside0.mk (blk_below HH4.out hb); have HB5 := Aside0.mk (HB4.out.trans (hb.mono HB4.out.size)); clear hb c0 c1 c2 c3 c4 c5 c6 c7 c8 c9 c10 d0 d1 d2 d3 d4 d5 d6 d7 d8 d9 d10 HF4 HH4; obtain ⟨c0, c1, c2, c3, c4, c5, c6, c7, c8, c9, c10, _⟩ := fm_lit HF5.out; obtain ⟨d0, d1, d2, d3, d4, d5, d6, d7, d8, d9, d10, _⟩ := fm_lit HH5.out; rw [show bef 5 true 385 false = true from rfl])
    | (go_at_call 12; refine (fbefore_any 385 3 1 2 255 0 0 0 0 0 false 5 4 0 0 0 0 0 0 0 0 true _).mono ?_; rintro e w6 ⟨rfl, hb⟩; have HB6 := Aside0.mk (HB5.out.trans (hb.mono HB5.out.size)); clear hb; rw [show bef 385 false 5 true = false from rfl]))
  go_ret
  exact ⟨rfl, HB6.out⟩
end Go.Proofs.YtmgabmcfgnlpfaaDoor.Frm
