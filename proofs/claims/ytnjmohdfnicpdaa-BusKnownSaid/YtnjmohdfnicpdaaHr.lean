/- slices.SortFunc laid at the seat; the closure of Waits; Waits (printed by gen_hr.py). -/
import Derived.Test.YtnjmohdfnicpdaaHq
import Derived.Shelf.SlSortCmp.WholeK
import Derived.Shelf.SlSortCmp.NoneTotal
namespace Go.Proofs.Ytnjmohdfnicpdaa.Bus
open Go.RowKit Go.Shelf Go.Lib Go.Sort Go.Proofs.Ytnjmohdfnicpdaa.Frm Go.Proofs.Ytnjmohdfnicpdaa.Rng Go.Proofs.YtnjmohdfnicpdaaW.PrintWords Go.Proofs.YtnjmohdfnicpdaaW.PrintMore Go.Proofs.YtnjmohdfnicpdaaW.PrintLast

def sortS_ren : Go.Shelf.Ren := ⟨fun | 6 => 25 | 15 => 37 | 14 => 36 | 28 => 50 | 29 => 51 | 20 => 42 | 21 => 43 | 22 => 44 | 23 => 45 | 24 => 46 | 25 => 47 | 26 => 48 | 27 => 49 | 46 => 53 | 47 => 54 | 48 => 55 | 49 => 56 | 50 => 57 | 57 => 58 | n => n, fun | 22 => 26 | 24 => 35 | 25 => 71 | 3 => 3 | 39 => 88 | 0 => 0 | 53 => 102 | 55 => 104 | 4 => 4 | 46 => 95 | 45 => 94 | 50 => 99 | 5 => 5 | 9 => 9 | 66 => 105 | 70 => 109 | 76 => 111 | 77 => 112 | n => n, fun | n => n⟩
theorem sortS : Go.Proofs.SlLaysF0.n6 Try.prog sortS_ren := {
  mixed := by kernel_rfl
  f6 := ⟨"slices.SortFunc[[]campanile/bus.Sent,campanile/bus.Sent]", by decide, Try.func25.trans (congrArg some (by kernel_rfl))⟩
  f14 := ⟨"slices.pdqsortCmpFunc[campanile/bus.Sent]", by decide, Try.func36.trans (congrArg some (by kernel_rfl))⟩
  f15 := Try.func37.trans (congrArg some (by kernel_rfl))
  f20 := ⟨"slices.insertionSortCmpFunc[campanile/bus.Sent]", by decide, Try.func42.trans (congrArg some (by kernel_rfl))⟩
  f21 := ⟨"slices.heapSortCmpFunc[campanile/bus.Sent]", by decide, Try.func43.trans (congrArg some (by kernel_rfl))⟩
  f22 := ⟨"slices.breakPatternsCmpFunc[campanile/bus.Sent]", by decide, Try.func44.trans (congrArg some (by kernel_rfl))⟩
  f23 := ⟨"slices.choosePivotCmpFunc[campanile/bus.Sent]", by decide, Try.func45.trans (congrArg some (by kernel_rfl))⟩
  f24 := ⟨"slices.reverseRangeCmpFunc[campanile/bus.Sent]", by decide, Try.func46.trans (congrArg some (by kernel_rfl))⟩
  f25 := ⟨"slices.partialInsertionSortCmpFunc[campanile/bus.Sent]", by decide, Try.func47.trans (congrArg some (by kernel_rfl))⟩
  f26 := ⟨"slices.partitionEqualCmpFunc[campanile/bus.Sent]", by decide, Try.func48.trans (congrArg some (by kernel_rfl))⟩
  f27 := ⟨"slices.partitionCmpFunc[campanile/bus.Sent]", by decide, Try.func49.trans (congrArg some (by kernel_rfl))⟩
  f28 := Try.func50.trans (congrArg some (by kernel_rfl))
  f29 := Try.func51.trans (congrArg some (by kernel_rfl))
  f46 := ⟨"slices.siftDownCmpFunc[campanile/bus.Sent]", by decide, Try.func53.trans (congrArg some (by kernel_rfl))⟩
  f47 := Try.func54.trans (congrArg some (by kernel_rfl))
  f48 := Try.func55.trans (congrArg some (by kernel_rfl))
  f49 := ⟨"slices.medianAdjacentCmpFunc[campanile/bus.Sent]", by decide, Try.func56.trans (congrArg some (by kernel_rfl))⟩
  f50 := ⟨"slices.medianCmpFunc[campanile/bus.Sent]", by decide, Try.func57.trans (congrArg some (by kernel_rfl))⟩
  f57 := ⟨"slices.order2CmpFunc[campanile/bus.Sent]", by decide, Try.func58.trans (congrArg some (by kernel_rfl))⟩
  t0 := Try.underlying0
  a0 := Try.isAgg0
  z0 := Try.sizeOf0
  v0 := Try.zeroValue0
  t3 := Try.underlying3
  a3 := Try.isAgg3
  z3 := Try.sizeOf3
  v3 := Try.zeroValue3
  t4 := Try.underlying4
  a4 := Try.isAgg4
  z4 := Try.sizeOf4
  v4 := Try.zeroValue4
  t5 := Try.underlying5
  a5 := Try.isAgg5
  z5 := Try.sizeOf5
  v5 := Try.zeroValue5
  t9 := Try.underlying9
  a9 := Try.isAgg9
  z9 := Try.sizeOf9
  v9 := Try.zeroValue9
  t22 := Try.underlying26
  a22 := Try.isAgg26
  z22 := Try.sizeOf26
  v22 := Try.zeroValue26
  t25 := Try.underlying71
  a25 := Try.isAgg71
  z25 := Try.sizeOf71
  v25 := Try.zeroValue71
  t39 := Try.underlying88
  a39 := Try.isAgg88
  z39 := Try.sizeOf88
  v39 := Try.zeroValue88
  t45 := Try.underlying94
  a45 := Try.isAgg94
  z45 := Try.sizeOf94
  v45 := Try.zeroValue94
  t46 := Try.underlying95
  a46 := Try.isAgg95
  z46 := Try.sizeOf95
  v46 := Try.zeroValue95
  t50 := Try.underlying99
  a50 := Try.isAgg99
  z50 := Try.sizeOf99
  v50 := Try.zeroValue99
  t53 := Try.underlying102
  a53 := Try.isAgg102
  z53 := Try.sizeOf102
  v53 := Try.zeroValue102
  t55 := Try.underlying104
  a55 := Try.isAgg104
  z55 := Try.sizeOf104
  v55 := Try.zeroValue104
  t66 := Try.underlying105
  a66 := Try.isAgg105
  z66 := Try.sizeOf105
  v66 := Try.zeroValue105
  t70 := Try.underlying109
  a70 := Try.isAgg109
  z70 := Try.sizeOf109
  v70 := Try.zeroValue109
  t76 := Try.underlying111
  a76 := Try.isAgg111
  z76 := Try.sizeOf111
  v76 := Try.zeroValue111
  t77 := Try.underlying112
  a77 := Try.isAgg112
  z77 := Try.sizeOf112
  v77 := Try.zeroValue112 }

/-- What the closure tells. -/
def cmpC (x y : Sn) : Int := if aheadC x y = true then -1 else 1
theorem cmp_lt (x y : Sn) : ltOf cmpC x y = aheadC x y := by
  unfold ltOf cmpC
  cases aheadC x y <;> simp
theorem cmp_swo : SWO (ltOf cmpC) := by
  rw [show ltOf cmpC = aheadC from funext fun x => funext fun y => cmp_lt x y]
  exact ahead_swo
set_option maxHeartbeats 2000000 in
set_option maxRecDepth 100000 in
theorem waits1_any (x y : Sn) (w : World) :
    Calls Try.prog 26 #[.agg x.cells.toArray, .agg y.cells.toArray] w fun e w' => e = .returned (.int .i64 (cmpC x y)) ∧ ∃ q os, w' = grow (w.drewN q) os := by
  have hb0 := two_new1 w (.cells x.cells.toArray 35) (.cells y.cells.toArray 35) 0
  have hb1 := two_new2 w (.cells x.cells.toArray 35) (.cells y.cells.toArray 35) 0
  have hbw : ∃ os, (w.alloc (.cells x.cells.toArray 35)).alloc (.cells y.cells.toArray 35) = grow w os := two_grow w _ _
  obtain ⟨q, hq⟩ : ∃ q, aheadC x y = q := ⟨_, rfl⟩
  obtain ⟨r, hr⟩ : ∃ r, cmpC x y = r := ⟨_, rfl⟩
  have HR := Aside0.mk (show (if q = true then (-1 : Int) else 1) = r by rw [← hr, ← hq]; rfl)
  rw [hr]
  change ((w.alloc (Obj.cells x.cells.toArray 35)).alloc (Obj.cells y.cells.toArray 35)).heap[w.heap.size]? = _ at hb0
  change ((w.alloc (Obj.cells x.cells.toArray 35)).alloc (Obj.cells y.cells.toArray 35)).heap[w.heap.size + 1]? = _ at hb1
  obtain ⟨f0, f1, f2, f3, f4, f5, f6, f7, f8, f9, f10, f11, f12, f13⟩ := sn_at hb0
  obtain ⟨g0, g1, g2, g3, g4, g5, g6, g7, g8, g9, g10, g11, g12, g13⟩ := sn_at hb1
  have ha := ahead_any x y
  rw [hq] at ha
  change ∀ w, Calls Try.prog 27 #[.agg #[.int .i64 x.nd, .int .u16 x.id, .int .i64 x.len, .int .u8 x.x0, .int .u8 x.x1, .int .u8 x.x2, .int .u8 x.x3, .int .u8 x.x4, .int .u8 x.x5, .int .u8 x.x6, .int .u8 x.x7, .bool x.rem, .int .i64 x.num], .agg #[.int .i64 y.nd, .int .u16 y.id, .int .i64 y.len, .int .u8 y.x0, .int .u8 y.x1, .int .u8 y.x2, .int .u8 y.x3, .int .u8 y.x4, .int .u8 y.x5, .int .u8 y.x6, .int .u8 y.x7, .bool y.rem, .int .i64 y.num]] w (fun e w' => e = .returned (.bool q) ∧ ∃ os, w' = grow w os) at ha
  have HA := Aside0.mk ha
  have HBW := Aside0.mk hbw
  clear hb0 hb1 hbw hq hr ha
  show Calls Try.prog 26 #[.agg #[.int .i64 x.nd, .int .u16 x.id, .int .i64 x.len, .int .u8 x.x0, .int .u8 x.x1, .int .u8 x.x2, .int .u8 x.x3, .int .u8 x.x4, .int .u8 x.x5, .int .u8 x.x6, .int .u8 x.x7, .bool x.rem, .int .i64 x.num], .agg #[.int .i64 y.nd, .int .u16 y.id, .int .i64 y.len, .int .u8 y.x0, .int .u8 y.x1, .int .u8 y.x2, .int .u8 y.x3, .int .u8 y.x4, .int .u8 y.x5, .int .u8 y.x6, .int .u8 y.x7, .bool y.rem, .int .i64 y.num]] w _
  go_enter Try.func26, Try.ntmps26
  go_wp2_with (fail)
  refine (HA.out _).mono ?_
  rintro e w1 ⟨rfl, os, hw1⟩
  have HW := Aside0.mk (show ∃ q os, w1 = grow (w.drewN q) os by
    obtain ⟨os0, h0⟩ := HBW.out
    exact ⟨0, os0 ++ os, (hw1.trans (congrArg (fun z => grow z os) h0)).trans (grow_grow _ _ _)⟩)
  clear hw1 f0 f1 f2 f3 f4 f5 f6 f7 f8 f9 f10 f11 f12 f13 g0 g1 g2 g3 g4 g5 g6 g7 g8 g9 g10 g11 g12 g13 HBW
  rcases q with _ | _
  · have hr1 : r = 1 := by rw [← HR.out]; rfl
    subst hr1
    go_wp2_with (fail)
    go_ret
    exact ⟨rfl, HW.out⟩
  · have hr1 : r = -1 := by rw [← HR.out]; rfl
    subst hr1
    go_wp2_with (fail)
    go_ret
    exact ⟨rfl, HW.out⟩
theorem cmp_lays (w : World) (gb n : Nat) : CmpLays Try.prog 26 #[] Sn.cells 13 cmpC gb 0 n w := fun _ _ _ _ x y => waits1_any x y _
/-- What waits, told: a row in a block of its own, whose cells may be written. -/
def WaitsAt (w : World) (A : Option Addr) (l : List Sn) : Prop := 0 < l.length → ∃ gb, A = some ⟨gb, 0, none⟩ ∧ (∀ i, i < l.length → CellsAt w gb (i * 13) (nth l i)) ∧ ∀ j, j < l.length * 13 → w.frozen? ⟨gb, j, none⟩ = false
theorem holds_row {w : World} {base : Nat} {ok : Nat → Prop} {gb n c : Nat} {l : List Sn} (h : Kd.R kSn 35 w base ok (.slice (some ⟨gb, 0, none⟩) n c) l) : HoldsK Sn.cells 13 w gb 0 l.toArray := by
  obtain ⟨hok, inner, ⟨hil0, ho⟩, hr⟩ := h
  rcases ho with ⟨h0, _⟩ | ⟨gb', c', cur, he, hb0, hb, hlc, hmx, hsz, htake⟩
  · cases h0
  · obtain rfl : gb = gb' := by
      simp at he
      exact he.1
    intro j hj
    rw [size_flatK] at hj
    have hjl : j / 13 < l.length := by
      have : l.toArray.size = l.length := by simp
      omega
    refine ⟨?_, blk_frozen hb _⟩
    rw [get_flatK _ _ _ _ hj, blk_cell hb]
    have h1 := hr.2 (j / 13) _ (get_nth hjl)
    have h2 : (inner.drop (j / 13 * 13)).take 13 = (nth l (j / 13)).cells := h1
    have h3 : (nth l (j / 13)).cells[j % 13]? = some ((nth l (j / 13)).cells[j % 13]!) := by
      rw [getElem!_pos _ (j % 13) (by rw [Sn.cells_len]; omega)]
      exact List.getElem?_eq_getElem _
    have h4 : l.toArray[j / 13]! = nth l (j / 13) := by
      rw [getElem!_pos _ (j / 13) (by simpa using hjl), nth_get hjl]
      simp
    rw [h4, id_eq, ← h3, ← h2, List.getElem?_take, if_pos (by omega), List.getElem?_drop, show j / 13 * 13 + j % 13 = j by omega, ← htake, List.getElem?_take, if_pos (by show _ < l.length * 13; omega), Array.getElem?_toList, Nat.zero_add]
theorem below_sort {B : Nat} {w W : World} (h : Below B w W) {gb m : Nat} (hg : B ≤ gb) (hgW : gb < W.heap.size) (d : Array Sn) (os : Array Obj) : Below B w (sortWorldK Sn.cells 13 W gb 0 m d os) := by
  refine h.trans ⟨rfl, rfl, rfl, ?_, fun k hk => ?_⟩
  · show _ ≤ (grow _ _).heap.size
    rw [size_grow]
    have : (putRowK Sn.cells 13 (Sort.ahead W m) gb 0 d).heap.size = W.heap.size := by
      show (putRow id (Sort.ahead W m) gb 0 _).heap.size = _
      rw [size_putRow]
      rfl
    omega
  · show ((putRowK Sn.cells 13 (Sort.ahead W m) gb 0 d).heap ++ os)[k]? = _
    have hsz : (putRowK Sn.cells 13 (Sort.ahead W m) gb 0 d).heap.size = W.heap.size := by
      show (putRow id (Sort.ahead W m) gb 0 _).heap.size = _
      rw [size_putRow]
      rfl
    have hkW : k < W.heap.size := by omega
    rw [Array.getElem?_append_left (by omega)]
    show (W.heap.modify gb _)[k]? = _
    rw [Array.getElem?_modify, if_neg (by omega)]
theorem waits_sorted {W : World} {gb m : Nat} {l : List Sn} {d' : Array Sn} {os : Array Obj} (hH : HoldsK Sn.cells 13 W gb 0 l.toArray) (hg : gb < W.heap.size) (hs : d'.size = l.length) : WaitsAt (sortWorldK Sn.cells 13 W gb 0 m d' os) (some ⟨gb, 0, none⟩) d'.toList := by
  intro h0
  have h1 : HoldsK Sn.cells 13 (sortWorldK Sn.cells 13 W gb 0 m d' os) gb 0 d' := by
    refine holdsK_grow _ _ _ _ _ _ _ ?_ (holdsK_putRowK _ _ _ _ _ l.toArray d' (holdsK_ahead _ _ _ _ _ _ _ hH) (by simpa using hs))
    show gb < (putRow id (Sort.ahead W m) gb 0 _).heap.size
    rw [size_putRow]
    exact hg
  refine ⟨gb, rfl, fun i hi => ?_, fun j hj => ?_⟩
  · have hi' : i < d'.size := by simpa using hi
    have h2 : ∀ c u, (nth d'.toList i).cells[c]? = some u → (sortWorldK Sn.cells 13 W gb 0 m d' os).cell? ⟨gb, i * 13 + c, none⟩ = some u := fun c u hu => by
      have hc : c < 13 := (List.getElem?_eq_some_iff.1 hu).1
      have h3 := (h1.cell hi' hc).1
      have h4 : d'[i]! = nth d'.toList i := by
        rw [getElem!_pos _ i hi', nth_get (by simpa using hi)]
        simp
      rw [h4, getElem!_pos _ c (by rw [Sn.cells_len]; exact hc)] at h3
      rw [Nat.zero_add] at h3
      rw [h3, ← hu]
      exact (List.getElem?_eq_getElem _).symm
    exact ⟨h2 0 _ rfl, h2 1 _ rfl, h2 2 _ rfl, h2 3 _ rfl, h2 4 _ rfl, h2 5 _ rfl, h2 6 _ rfl, h2 7 _ rfl, h2 8 _ rfl, h2 9 _ rfl, h2 10 _ rfl, h2 11 _ rfl, h2 12 _ rfl⟩
  · have h2 := (h1 j (by rw [size_flatK]; simpa using hj)).2
    rwa [Nat.zero_add] at h2
end Go.Proofs.Ytnjmohdfnicpdaa.Bus
