/- The law's example of types works: all of it. -/
import Derived.Test.YtcgcghldgomelaaGreatDoorYd
namespace Go.Proofs.YtcgcghldgomelaaGreatDoor.Mp
open Go.RowKit Go.Shelf Go.Proofs.YtcgcghldgomelaaGreatDoor.Rng Go.Proofs.YtcgcghldgomelaaGreatDoorW.PrintWords Go.Proofs.YtcgcghldgomelaaGreatDoorW.PrintMore Go.Proofs.YtcgcghldgomelaaGreatDoorW.PrintLast

theorem byt_l {l : List Int} (h : l.all (fun x => decide (0 ≤ x) && decide (x < 256)) = true) : Byt l := fun x hx => by
  have := List.all_eq_true.1 h x hx
  simp at this
  exact this
theorem arg_nil (w : World) : Arg w none 0 [] := ⟨⟨by simp, fun h => by simp at h⟩, fun x hx => by simp at hx, by simp, by omega⟩
theorem rd_row2 {w : World} {g : Nat} {a b : Int} (h : w.heap[g]? = some (.cells #[.int .u8 a, .int .u8 b] 5 (0, 0))) : Rd w (some ⟨g, 0, none⟩) [a, b] := by
  have hc := Go.Proofs.YtcgcghldgomelaaGreatDoorW.PrintWords.blk_cell h
  refine ⟨by simp, fun _ => ⟨⟨g, 0, none⟩, rfl, fun j hj => ?_⟩⟩
  match j, hj with
  | 0, _ => exact hc 0
  | 1, _ => exact hc 1
  | j + 2, hj => simp at hj; omega
theorem rd_row1 {w : World} {g : Nat} {a : Int} (h : w.heap[g]? = some (.cells #[.int .u8 a] 5 (0, 0))) : Rd w (some ⟨g, 0, none⟩) [a] := by
  have hc := Go.Proofs.YtcgcghldgomelaaGreatDoorW.PrintWords.blk_cell h
  refine ⟨by simp, fun _ => ⟨⟨g, 0, none⟩, rfl, fun j hj => ?_⟩⟩
  match j, hj with
  | 0, _ => exact hc 0
  | j + 1, hj => simp at hj
set_option maxRecDepth 100000 in
set_option maxHeartbeats 1000000 in
theorem text_n2 (w : World) (g : Nat) (hr : w.heap[g]? = some (.cells #[.int .u8 254, .int .u8 255] 5 (0, 0))) (h : Tabs w) (ht : Tbl w) : Calls Tryz.prog 20 #[.int .u8 3, .slice (some ⟨g, 0, none⟩) 2 2] w fun e w' => e = .returned (.tuple #[.string ⟨#[45, 50]⟩, .int .i64 0]) ∧ Below w.heap.size w w' := by
  have HT := Aside0.mk h
  have HTT := Aside0.mk ht
  have HR := Aside0.mk (rd_row2 hr)
  have hb : Byt [254, 255] := byt_l rfl
  have HP := Aside0.mk (plain_any 3 (by decide) (some ⟨g, 0, none⟩) 2 [254, 255] w ht HR.out hb (by decide) (by decide))
  rw [show plainC 3 [254, 255] = 0 by decide +kernel] at HP
  have hrt := right_any 3 (by decide) w ht
  rw [show (knd 3 != 0) = true from rfl] at hrt
  have HRT := Aside0.mk hrt
  have hbt : Byt [254, 255] := hb
  obtain ⟨hf0, hf1⟩ := fields_form 2 2
  clear h ht hr hrt
  go_enter Tryz.func20, Tryz.ntmps20
  go_wp2_with (first
    | (go_at_call 33; refine HRT.out.mono ?_; rintro e w1 ⟨rfl, hw⟩; have hw := hw.symm; subst hw)
    | (go_at_call 35; go_loud (refine HP.out.mono ?_; rintro e w2 ⟨rfl, hb2⟩; have HB2 := Aside0.mk hb2; obtain ⟨bm, hc, hl⟩ := (HTT.out.below hb2).at_ (t := 3) (by decide); rw [show knd 3 = 2 from rfl, show siz 3 = 2 from rfl] at hl; clear hb2))
    | (go_at_call 42; go_loud (have hwh := whole_any (some ⟨g, 0, none⟩) 2 [254, 255] w2 (HR.out.below HB2.out) hbt (by decide); rw [show wholeC [254, 255] = -2 by decide +kernel] at hwh; refine hwh.mono ?_; clear hwh; rintro e w3 ⟨rfl, hb3⟩; have HB3 := Aside0.mk (HB2.out.trans (hb3.mono HB2.out.size)); clear hb3))
    | (go_at_call 52; go_loud (refine (sint_n2 _ (HT.out.below HB3.out)).mono ?_; rintro e w4 ⟨rfl, hb4⟩; have HB4 := Aside0.mk (HB3.out.trans (hb4.mono HB3.out.size)); clear hb4)))
  go_ret2
  exact ⟨rfl, HB4.out⟩
set_option maxRecDepth 100000 in
set_option maxHeartbeats 4000000 in
theorem works01_any (w : World) (h : Tabs w) (ht : Tbl w) : Calls Tryz.prog 14 #[] w fun e w' => e = .returned (.bool true) ∧ Below w.heap.size w w' := by
  have HT := Aside0.mk h
  have HTT := Aside0.mk ht
  have HA := Aside0.mk fun (X : World) (v : Array Value) (hX : Below w.heap.size w X) => (show Below w.heap.size w (X.alloc (.cells v 5)) from hX.trans ((below_alloc (Below.refl _ _) _).mono hX.size))
  have e4 : strOfNums [0, 0, 192, 63] = ⟨#[0, 0, 192, 63]⟩ := by decide +kernel
  clear h ht
  go_enter Tryz.func14, Tryz.ntmps14
  go_wp2_with (first
    | (go_at_call 20; go_loud (refine (text_n2 _ w.heap.size (blk_new w _) (HT.out.below (HA.out w _ (Below.refl _ _))) (HTT.out.below (HA.out w _ (Below.refl _ _)))).mono ?_; rintro e w1 ⟨rfl, hb1⟩; have HB1 := Aside0.mk ((HA.out w _ (Below.refl _ _)).trans (hb1.mono (HA.out w _ (Below.refl _ _)).size)); clear hb1))
    | (go_at_call 22; go_loud (refine (value_15 _ (HT.out.below HB1.out) (HTT.out.below HB1.out)).mono ?_; rintro e w2 ⟨g, rfl, h1, h2, h3⟩; have HB2 := Aside0.mk (HB1.out.trans (h3.mono HB1.out.size)); have HG := Aside0.mk (rd_4 h2); clear h1 h2 h3))
    | (go_at_call 18; go_loud (have ha := HA.out w2 #[.int .u8 0, .int .u8 0, .int .u8 0, .int .u8 128] HB2.out; have hb := HA.out _ #[.int .u8 0, .int .u8 0, .int .u8 0, .int .u8 0] ha; have r1 := (rd_4 (blk_new w2 (.cells #[.int .u8 0, .int .u8 0, .int .u8 0, .int .u8 128] 5))).below (below_alloc (Below.refl _ _) (.cells #[.int .u8 0, .int .u8 0, .int .u8 0, .int .u8 0] 5)); have r2 := rd_4 (blk_new (w2.alloc (.cells #[.int .u8 0, .int .u8 0, .int .u8 0, .int .u8 128] 5)) (.cells #[.int .u8 0, .int .u8 0, .int .u8 0, .int .u8 0] 5)); rw [show (w2.alloc (.cells #[.int .u8 0, .int .u8 0, .int .u8 0, .int .u8 128] 5)).heap.size = w2.heap.size + 1 by simp] at r2; have hcm := compare_any 8 (by decide) (some ⟨w2.heap.size, 0, none⟩) 4 [0, 0, 0, 128] (some ⟨w2.heap.size + 1, 0, none⟩) 4 [0, 0, 0, 0] _ (HTT.out.below hb) r1 (byt_l rfl) (by decide) (by decide) r2 (byt_l rfl) (by decide) (by decide); rw [cmp_ex] at hcm; refine hcm.mono ?_; clear hcm r1 r2; rintro e w3 ⟨rfl, hb3⟩; have HB3 := Aside0.mk (hb.trans (hb3.mono hb.size)); have hg3 := (HG.out.below ((below_alloc (Below.refl _ _) _).trans (((below_alloc (Below.refl _ _) _).trans (hb3.mono (by simp))).mono (by simp)))); have cv1 := str_rd hg3 4 4 rfl _ e4; have cv2 := str_rd (rd_4 (blk_new w3 (.cells #[.int .u8 0, .int .u8 0, .int .u8 192, .int .u8 63] 5))) 4 4 rfl _ e4; clear ha hb hb3 hg3))
    | (go_at_call 16; go_loud (have ha := HA.out w3 #[.int .u8 0, .int .u8 0, .int .u8 192, .int .u8 63] HB3.out; have hb := HA.out _ #[.int .u8 2] ha; have r1 := rd_row1 (blk_new (w3.alloc (.cells #[.int .u8 0, .int .u8 0, .int .u8 192, .int .u8 63] 5)) (.cells #[.int .u8 2] 5)); rw [show (w3.alloc (.cells #[.int .u8 0, .int .u8 0, .int .u8 192, .int .u8 63] 5)).heap.size = w3.heap.size + 1 by simp] at r1; have hck := check_any 1 (by decide) (some ⟨w3.heap.size + 1, 0, none⟩) 1 [2] none 0 [] none 0 [] _ (HTT.out.below hb) ⟨r1, byt_l rfl, by decide, by decide⟩ (arg_nil _) (arg_nil _); rw [chk_ex] at hck; refine hck.mono ?_; clear hck r1; rintro e w4 ⟨rfl, hb4⟩; have HB4 := Aside0.mk (hb.trans (hb4.mono hb.size)); clear ha hb hb4)))
  go_ret
  exact ⟨rfl, HB4.out⟩
end Go.Proofs.YtcgcghldgomelaaGreatDoor.Mp
