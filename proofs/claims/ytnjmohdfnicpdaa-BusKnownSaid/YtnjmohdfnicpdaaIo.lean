/- A bus that is not there, literal rows, the walk over BusKnown (printed by gen_io.py out of XIh, XIm, XIn). -/
import Derived.Test.YtnjmohdfnicpdaaIf
import Derived.Test.YtnjmohdfnicpdaaIk
namespace Go.Proofs.Ytnjmohdfnicpdaa.Bus
open Go.RowKit Go.Shelf Go.Lib Go.Sort Go.Proofs.Ytnjmohdfnicpdaa.Frm Go.Proofs.Ytnjmohdfnicpdaa.Rng Go.Proofs.YtnjmohdfnicpdaaW.PrintWords Go.Proofs.YtnjmohdfnicpdaaW.PrintMore Go.Proofs.YtnjmohdfnicpdaaW.PrintLast

theorem next_nil (w : World) : Calls Try.prog 10 #[.pointer none] w fun e w' => e = .returned (.tuple #[.agg #[.int .i64 0, .int .u16 0, .int .i64 0, .int .u8 0, .int .u8 0, .int .u8 0, .int .u8 0, .int .u8 0, .int .u8 0, .int .u8 0, .int .u8 0, .bool false, .int .i64 0], .bool false]) ∧ Below w.heap.size w w' := by
  have hbw := Aside0.mk (below_alloc (Below.refl w.heap.size w) (.cells #[.int .i64 0, .int .u16 0, .int .i64 0, .int .u8 0, .int .u8 0, .int .u8 0, .int .u8 0, .int .u8 0, .int .u8 0, .int .u8 0, .int .u8 0, .bool false, .int .i64 0] 35))
  have hnw := Aside0.mk (heap_alloc_new w (.cells #[.int .i64 0, .int .u16 0, .int .i64 0, .int .u8 0, .int .u8 0, .int .u8 0, .int .u8 0, .int .u8 0, .int .u8 0, .int .u8 0, .int .u8 0, .bool false, .int .i64 0] 35))
  go_enter Try.func10, Try.ntmps10
  go_wp2_with (fail)
  refine bodyPost_ret (next_res _ _ w.heap.size sn0 _ rfl rfl hnw.out) rfl ?_
  exact ⟨rfl, hbw.out⟩
theorem send_nil (w : World) (nd : Int) (x : Sn) : Calls Try.prog 8 #[.pointer none, .int .i64 nd, .agg #[.int .u16 x.id, .int .i64 x.len, .int .u8 x.x0, .int .u8 x.x1, .int .u8 x.x2, .int .u8 x.x3, .int .u8 x.x4, .int .u8 x.x5, .int .u8 x.x6, .int .u8 x.x7, .bool x.rem]] w fun e w' => e = .returned (.int .i64 1) ∧ Below w.heap.size w w' := by
  have hbw := Aside0.mk (below_alloc (Below.refl w.heap.size w) (.cells #[.int .u16 x.id, .int .i64 x.len, .int .u8 x.x0, .int .u8 x.x1, .int .u8 x.x2, .int .u8 x.x3, .int .u8 x.x4, .int .u8 x.x5, .int .u8 x.x6, .int .u8 x.x7, .bool x.rem] 32))
  go_enter Try.func8, Try.ntmps8
  go_wp2_with (fail)
  go_ret
  exact ⟨rfl, hbw.out⟩
theorem gone_nil (w : World) (nd : Int) : Calls Try.prog 18 #[.pointer none, .int .i64 nd] w fun e w' => e = .returned (.int .i64 0) ∧ Below w.heap.size w w' := by
  have hbw := Aside0.mk (below_alloc (Below.refl w.heap.size w) (.cells #[.int .i64 nd] 3))
  go_enter Try.func18, Try.ntmps18
  go_wp2_with (fail)
  go_ret
  exact ⟨rfl, hbw.out⟩
theorem waits_nil (w : World) : Calls Try.prog 11 #[.pointer none] w fun e w' => e = .returned (.slice none 0 0) ∧ w' = w := by
  go_enter Try.func11, Try.ntmps11
  go_wp2_with (fail)
  go_ret
  exact ⟨rfl, rfl⟩
theorem count_nil (w : World) : Calls Try.prog 12 #[.pointer none] w fun e w' => e = .returned (.int .i64 0) ∧ w' = w := by
  go_enter Try.func12, Try.ntmps12
  go_wp2_with (fail)
  go_ret
  exact ⟨rfl, rfl⟩
theorem copy_nil (w : World) : Calls Try.prog 14 #[.pointer none] w fun e w' => e = .returned (.pointer none) ∧ w' = w := by
  go_enter Try.func14, Try.ntmps14
  go_wp2_with (fail)
  go_ret
  exact ⟨rfl, rfl⟩
theorem zero_eq0 (w : World) : (Op.equalIn 10000 35 (.agg #[.int .i64 0, .int .u16 0, .int .i64 0, .int .u8 0, .int .u8 0, .int .u8 0, .int .u8 0, .int .u8 0, .int .u8 0, .int .u8 0, .int .u8 0, .bool false, .int .i64 0]) (.agg #[.int .i64 0, .int .u16 0, .int .i64 0, .int .u8 0, .int .u8 0, .int .u8 0, .int .u8 0, .int .u8 0, .int .u8 0, .int .u8 0, .int .u8 0, .bool false, .int .i64 0])).run Try.prog w = .ok true w := by kernel_rfl
set_option maxHeartbeats 4000000 in
set_option maxRecDepth 100000 in
theorem none_any (nd : Int) (x : Sn) (w : World) : Calls Try.prog 5 #[.int .i64 nd, .agg #[.int .u16 x.id, .int .i64 x.len, .int .u8 x.x0, .int .u8 x.x1, .int .u8 x.x2, .int .u8 x.x3, .int .u8 x.x4, .int .u8 x.x5, .int .u8 x.x6, .int .u8 x.x7, .bool x.rem]] w (WorkSaid w) := by
  have hz := zero_eq0
  have hbw := below_alloc (Below.refl w.heap.size w) (.cells #[.int .u16 x.id, .int .i64 x.len, .int .u8 x.x0, .int .u8 x.x1, .int .u8 x.x2, .int .u8 x.x3, .int .u8 x.x4, .int .u8 x.x5, .int .u8 x.x6, .int .u8 x.x7, .bool x.rem] 32)
  have hnw := heap_alloc_new w (.cells #[.int .u16 x.id, .int .i64 x.len, .int .u8 x.x0, .int .u8 x.x1, .int .u8 x.x2, .int .u8 x.x3, .int .u8 x.x4, .int .u8 x.x5, .int .u8 x.x6, .int .u8 x.x7, .bool x.rem] 32)
  have HW := Aside0.mk hbw
  have HNW := Aside0.mk hnw
  clear hbw hnw
  go_enter Try.func5, Try.ntmps5
  go_wp2_with (fail)
  refine (next_nil _).mono ?_
  rintro e w1 ⟨rfl, hb1⟩
  have hal := below_alloc (Below.refl w1.heap.size w1) (.cells #[.int .i64 0, .int .u16 0, .int .i64 0, .int .u8 0, .int .u8 0, .int .u8 0, .int .u8 0, .int .u8 0, .int .u8 0, .int .u8 0, .int .u8 0, .bool false, .int .i64 0] 35)
  have hxx := heap_alloc_new w1 (.cells #[.int .i64 0, .int .u16 0, .int .i64 0, .int .u8 0, .int .u8 0, .int .u8 0, .int .u8 0, .int .u8 0, .int .u8 0, .int .u8 0, .int .u8 0, .bool false, .int .i64 0] 35)
  have hfr := blk_below (blk_below HNW.out hb1) hal
  have HW1 := Aside0.mk (show Below w.heap.size w (w1.alloc (.cells #[.int .i64 0, .int .u16 0, .int .i64 0, .int .u8 0, .int .u8 0, .int .u8 0, .int .u8 0, .int .u8 0, .int .u8 0, .int .u8 0, .int .u8 0, .bool false, .int .i64 0] 35)) from HW.out.trans ((hb1.trans (hal.mono hb1.size)).mono HW.out.size))
  have HXX := Aside0.mk hxx
  obtain ⟨f0, f1, f2, f3, f4, f5, f6, f7, f8, f9, f10, -⟩ := fm_at (show (w1.alloc (.cells #[.int .i64 0, .int .u16 0, .int .i64 0, .int .u8 0, .int .u8 0, .int .u8 0, .int .u8 0, .int .u8 0, .int .u8 0, .int .u8 0, .int .u8 0, .bool false, .int .i64 0] 35)).heap[w.heap.size]? = some (.cells (Fm.cells ⟨x.id, x.len, [x.x0, x.x1, x.x2, x.x3, x.x4, x.x5, x.x6, x.x7], x.rem⟩) 32 (0, 0)) from hfr)
  clear hb1 hal hxx hfr HW HNW
  go_wp2_with (fail)
  obtain ⟨t, ht⟩ : ∃ t, w1.heap.size = t := ⟨_, rfl⟩
  rw [ht] at HXX
  rw [ht]
  clear ht f0 f1 f2 f3 f4 f5 f6 f7 f8 f9 f10
  generalize w1.alloc (.cells #[.int .i64 0, .int .u16 0, .int .i64 0, .int .u8 0, .int .u8 0, .int .u8 0, .int .u8 0, .int .u8 0, .int .u8 0, .int .u8 0, .int .u8 0, .bool false, .int .i64 0] 35) = W1 at HW1 HXX ⊢
  refine (send_nil W1 nd x).mono ?_
  rintro e w2 ⟨rfl, hb2⟩
  obtain ⟨g0, g1, g2, g3, g4, g5, g6, g7, g8, g9, g10, g11, g12, -⟩ := sn_at (s := sn0) (blk_below HXX.out hb2)
  simp only [sn0] at g0 g1 g2 g3 g4 g5 g6 g7 g8 g9 g10 g11 g12
  have HW2 := Aside0.mk (HW1.out.trans (hb2.mono HW1.out.size))
  clear hb2
  go_wp2_with (fail)
  refine (gone_nil w2 nd).mono ?_
  rintro e w3 ⟨rfl, hb3⟩
  have HW3 := Aside0.mk (HW2.out.trans (hb3.mono HW2.out.size))
  clear hb3 g0 g1 g2 g3 g4 g5 g6 g7 g8 g9 g10 g11 g12
  go_wp2_with (fail)
  refine (waits_nil w3).mono ?_
  rintro e w4 ⟨rfl, rfl⟩
  go_wp2_with (fail)
  refine (count_nil w4).mono ?_
  rintro e w5 ⟨rfl, rfl⟩
  go_wp2_with (fail)
  refine (copy_nil w5).mono ?_
  rintro e w6 ⟨rfl, rfl⟩
  go_wp2_with (fail)
  refine (works_any w6).mono ?_
  rintro e w7 ⟨rfl, hb7⟩
  have HW7 := Aside0.mk (HW3.out.trans (hb7.mono HW3.out.size))
  clear hb7
  go_wp2_with (fail)
  go_ret
  exact ⟨rfl, HW7.out⟩

theorem size_frm : (Try.prog.info? 32).map (·.size) = some 11 := by kernel_rfl
set_option maxHeartbeats 2000000 in
set_option maxRecDepth 100000 in
theorem bf_any (id x : Int) (w : World) :
    Calls Try.prog 19 #[.int .u16 id, .int .u8 x] w fun e w' => e = .returned (.agg #[.int .u16 id, .int .i64 1, .int .u8 x, .int .u8 0, .int .u8 0, .int .u8 0, .int .u8 0, .int .u8 0, .int .u8 0, .int .u8 0, .bool false]) ∧ Below w.heap.size w w' := by
  go_enter Try.func19, Try.ntmps19
  go_wp2_with (fail)
  have h1 := two_new1 w (.cells #[.int .u16 id, .int .i64 1, .int .u8 x, .int .u8 0, .int .u8 0, .int .u8 0, .int .u8 0, .int .u8 0, .int .u8 0, .int .u8 0, .bool false] 32) (.cells #[.int .u16 id, .int .i64 1, .int .u8 x, .int .u8 0, .int .u8 0, .int .u8 0, .int .u8 0, .int .u8 0, .int .u8 0, .int .u8 0, .bool false] 32) 0
  have h2 := two_below w (.cells #[.int .u16 id, .int .i64 1, .int .u8 x, .int .u8 0, .int .u8 0, .int .u8 0, .int .u8 0, .int .u8 0, .int .u8 0, .int .u8 0, .bool false] 32) (.cells #[.int .u16 id, .int .i64 1, .int .u8 x, .int .u8 0, .int .u8 0, .int .u8 0, .int .u8 0, .int .u8 0, .int .u8 0, .int .u8 0, .bool false] 32) 0
  exact bodyPost_ret (results_cell_row rfl _ _ w.heap.size _ _ (0, 0) _ rfl h1 Try.underlying32 rfl (by rw [size_frm]; rfl)) rfl ⟨rfl, h2⟩
theorem row_get {α : Type} (f : α → List Value) (k : Nat) (hk : ∀ x, (f x).length = k) : ∀ (l : List α) (i j : Nat) (x : α), l[i]? = some x → j < k → (l.map f).flatten[i * k + j]? = (f x)[j]?
  | [], i, j, x, h, _ => by simp at h
  | y :: r, 0, j, x, h, hj => by
    simp at h
    subst h
    rw [List.map_cons, List.flatten_cons, Nat.zero_mul, Nat.zero_add, List.getElem?_append_left (by rw [hk]; exact hj)]
  | y :: r, i + 1, j, x, h, hj => by
    simp at h
    rw [List.map_cons, List.flatten_cons, List.getElem?_append_right (by rw [hk, Nat.add_mul]; omega), hk, show (i + 1) * k + j - k = i * k + j by rw [Nat.add_mul]; omega]
    exact row_get f k hk r i j x h hj
theorem sts_lit {W : World} {b : Nat} {t : TypeId} {l : List Stp} (h : W.heap[b]? = some (.cells (l.map fun s => s.cells.toList).flatten.toArray t (0, 0))) : StsAt W (some ⟨b, 0, none⟩) l := by
  refine ⟨fun _ => ⟨_, rfl⟩, fun k s hk ad e => ?_⟩
  cases e
  have hc : ∀ j u, s.cells.toList[j]? = some u → W.cell? ⟨b, k * 14 + j, none⟩ = some u := fun j u hu => by
    rw [blk_cell h]
    have hj : j < 14 := (List.getElem?_eq_some_iff.1 hu).1
    have := row_get (fun s : Stp => s.cells.toList) 14 (fun _ => rfl) l k j s hk hj
    simp only [List.getElem?_toArray]
    rw [this]
    exact hu
  have hz : (⟨b, 0, none⟩ : Addr).add (k * 14) = ⟨b, k * 14, none⟩ := by rw [Addr.add_mid, Nat.zero_add]
  rw [hz]
  exact ⟨hc 0 _ rfl, hc 1 _ rfl, hc 2 _ rfl, hc 3 _ rfl, hc 4 _ rfl, hc 5 _ rfl, hc 6 _ rfl, hc 7 _ rfl, hc 8 _ rfl, hc 9 _ rfl, hc 10 _ rfl, hc 11 _ rfl, hc 12 _ rfl, hc 13 _ rfl⟩
theorem frs_lit {W : World} {b : Nat} {t : TypeId} {l : List Sn} (h : W.heap[b]? = some (.cells (l.map fun s => s.fcells.toList).flatten.toArray t (0, 0))) : FrsAt W (some ⟨b, 0, none⟩) l := by
  refine ⟨fun _ => ⟨_, rfl⟩, fun k s hk ad e => ?_⟩
  cases e
  have hc : ∀ j u, s.fcells.toList[j]? = some u → W.cell? ⟨b, k * 11 + j, none⟩ = some u := fun j u hu => by
    rw [blk_cell h]
    have hj : j < 11 := (List.getElem?_eq_some_iff.1 hu).1
    have := row_get (fun s : Sn => s.fcells.toList) 11 (fun _ => rfl) l k j s hk hj
    simp only [List.getElem?_toArray]
    rw [this]
    exact hu
  have hz : (⟨b, 0, none⟩ : Addr).add (k * 11) = ⟨b, k * 11, none⟩ := by rw [Addr.add_mid, Nat.zero_add]
  rw [hz]
  exact ⟨hc 0 _ rfl, hc 1 _ rfl, hc 2 _ rfl, hc 3 _ rfl, hc 4 _ rfl, hc 5 _ rfl, hc 6 _ rfl, hc 7 _ rfl, hc 8 _ rfl, hc 9 _ rfl, hc 10 _ rfl⟩
theorem ints_lit {W : World} {b : Nat} {t : TypeId} {l : List Int} (h : W.heap[b]? = some (.cells (l.map fun z => Value.int .i64 z).toArray t (0, 0))) : IntsAt W (some ⟨b, 0, none⟩) l := by
  refine ⟨fun _ => ⟨_, rfl⟩, fun k z hk ad e => ?_⟩
  cases e
  rw [Addr.add_mid, Nat.zero_add, blk_cell h]
  simp [hk]

def fA (nd x : Int) : Sn := ⟨nd, 385, 1, x, 0, 0, 0, 0, 0, 0, 0, false, 0⟩
def fB (nd id len : Int) (rem : Bool) : Sn := ⟨nd, id, len, 0, 0, 0, 0, 0, 0, 0, 0, rem, 0⟩
def stA (x : Sn) : Stp := ⟨0, x, 0⟩
def stK (k nd : Int) : Stp := ⟨k, fB nd 0 0 false, 0⟩
def rowK : List Stp := [stA (fA 1 1), stA (fB 2 128 0 false), stA (fA 1 2), stK 5 0, stK 2 0, stK 2 0, stK 2 0, stK 2 0, stA (fB 1 385 0 true), stA (fA 3 1), stK 2 0, stK 4 1, stK 4 1, stA (fA (-1) 1), stA (fB 1 2048 0 false), stA (fB (-1) 2048 0 false), ⟨0, fA 9223372036854775807 1, 510⟩, stA (fA 1 1), stA (fA 1 1), stA (fB 1 0 9 false), stK 2 0, stA (fA 1 1), stA (fA 1 1), stK 4 9223372036854775807]
def frsK : List Sn := [fA 0 1, fB 0 0 0 false, fA 0 1, fB 0 385 0 true, fA 0 9, fB 0 1 0 false]
/-- The frame's cells lie there. -/
def FrAt (b : Nat) (Z : World) : Prop := Z.heap[b]? = some (.cells #[.int .u16 385, .int .i64 1, .int .u8 1, .int .u8 0, .int .u8 0, .int .u8 0, .int .u8 0, .int .u8 0, .int .u8 0, .int .u8 0, .bool false] 32 (0, 0))
theorem FrAt.get {b : Nat} {Z : World} (h : FrAt b Z) : Z.cell? ⟨b, 0, none⟩ = some (.int .u16 385) ∧ Z.cell? ⟨b, 1, none⟩ = some (.int .i64 1) ∧ Z.cell? ⟨b, 2, none⟩ = some (.int .u8 1) ∧ Z.cell? ⟨b, 3, none⟩ = some (.int .u8 0) ∧ Z.cell? ⟨b, 4, none⟩ = some (.int .u8 0) ∧ Z.cell? ⟨b, 5, none⟩ = some (.int .u8 0) ∧ Z.cell? ⟨b, 6, none⟩ = some (.int .u8 0) ∧ Z.cell? ⟨b, 7, none⟩ = some (.int .u8 0) ∧ Z.cell? ⟨b, 8, none⟩ = some (.int .u8 0) ∧ Z.cell? ⟨b, 9, none⟩ = some (.int .u8 0) ∧ Z.cell? ⟨b, 10, none⟩ = some (.bool false) :=
  ⟨blk_cell h 0, blk_cell h 1, blk_cell h 2, blk_cell h 3, blk_cell h 4, blk_cell h 5, blk_cell h 6, blk_cell h 7, blk_cell h 8, blk_cell h 9, blk_cell h 10⟩
set_option maxHeartbeats 16000000 in
set_option maxRecDepth 100000 in
theorem known_any (w : World) : Calls Try.prog 6 #[] w (WorkSaid w) := by
  go_enter Try.func6, Try.ntmps6
  go_wp2_with (fail)
  refine (bf_any 385 1 w).mono ?_
  rintro e w1 ⟨rfl, hb1⟩
  have hal := below_alloc (Below.refl w1.heap.size w1) (.cells #[.int .u16 385, .int .i64 1, .int .u8 1, .int .u8 0, .int .u8 0, .int .u8 0, .int .u8 0, .int .u8 0, .int .u8 0, .int .u8 0, .bool false] 32)
  have hnw := heap_alloc_new w1 (.cells #[.int .u16 385, .int .i64 1, .int .u8 1, .int .u8 0, .int .u8 0, .int .u8 0, .int .u8 0, .int .u8 0, .int .u8 0, .int .u8 0, .bool false] 32)
  have HW1 := Aside0.mk (hb1.trans (hal.mono hb1.size))
  have HF1 := Aside0.mk (show FrAt w1.heap.size _ from hnw)
  clear hb1 hal hnw
  go_wp2_with (fail)
  obtain ⟨b, hb⟩ : ∃ b, w1.heap.size = b := ⟨_, rfl⟩
  rw [hb] at HF1
  rw [hb]
  clear hb
  generalize w1.alloc (.cells #[.int .u16 385, .int .i64 1, .int .u8 1, .int .u8 0, .int .u8 0, .int .u8 0, .int .u8 0, .int .u8 0, .int .u8 0, .int .u8 0, .bool false] 32) = W1 at HW1 HF1 ⊢
  have hS0 : FrAt b W1.drew := HF1.out
  have HWD := Aside0.mk (show Below w.heap.size w W1.drew from HW1.out.trans ((below_drew (Below.refl _ _)).mono HW1.out.size))
  refine wp_region_held_drew (S := FrAt b) (by kernel_rfl) hS0 (fun hHeld => ?_)
  clear hS0 HW1 HF1
  generalize W1.drew = wd at hHeld HWD ⊢
  refine wpAnyH_take (i := 0) (oi := { dst := some 4, op := Op.load 32 (Operand.tmp 1), type := 32, pos := _, after := _, guard := none }) (v := ?_) rfl (by kernel_rfl) (by kernel_rfl) (by kernel_rfl) (fun _ _ _ h => h) (Or.inl ⟨rfl, ?_⟩) hHeld ?_
  rotate_left
  · intro w hSw
    obtain ⟨s0, s1, s2, s3, s4, s5, s6, s7, s8, s9, s10⟩ := FrAt.get hSw
    try dsimp only at hSw
    go_simp
    try exact rfl
  try simp only [Act.put, List.setIfInBounds_toArray, List.set_cons_zero, List.set_cons_succ]
  refine wpAnyH_take (i := 1) (oi := { dst := some 5, op := Op.build 45 #[(1, Operand.const (Go.Value.int Go.IntKind.i64 1)), (2, Operand.tmp 4)], type := 45, pos := _, after := _, guard := none }) (v := ?_) rfl (by kernel_rfl) (by kernel_rfl) (by kernel_rfl) (fun _ _ _ h => h) (Or.inl ⟨rfl, ?_⟩) hHeld ?_
  rotate_left
  · intro w hSw
    obtain ⟨s0, s1, s2, s3, s4, s5, s6, s7, s8, s9, s10⟩ := FrAt.get hSw
    try dsimp only at hSw
    go_simp
    try exact rfl
  try simp only [Act.put, List.setIfInBounds_toArray, List.set_cons_zero, List.set_cons_succ]
  refine wpAnyH_take (i := 2) (oi := { dst := some 6, op := Op.build 32 #[(0, Operand.const (Go.Value.int Go.IntKind.u16 128))], type := 32, pos := _, after := _, guard := none }) (v := ?_) rfl (by kernel_rfl) (by kernel_rfl) (by kernel_rfl) (fun _ _ _ h => h) (Or.inl ⟨rfl, ?_⟩) hHeld ?_
  rotate_left
  · intro w hSw
    obtain ⟨s0, s1, s2, s3, s4, s5, s6, s7, s8, s9, s10⟩ := FrAt.get hSw
    try dsimp only at hSw
    go_simp
    try exact rfl
  try simp only [Act.put, List.setIfInBounds_toArray, List.set_cons_zero, List.set_cons_succ]
  refine wpAnyH_take (i := 3) (oi := { dst := some 7, op := Op.build 45 #[(1, Operand.const (Go.Value.int Go.IntKind.i64 2)), (2, Operand.tmp 6)], type := 45, pos := _, after := _, guard := none }) (v := ?_) rfl (by kernel_rfl) (by kernel_rfl) (by kernel_rfl) (fun _ _ _ h => h) (Or.inl ⟨rfl, ?_⟩) hHeld ?_
  rotate_left
  · intro w hSw
    obtain ⟨s0, s1, s2, s3, s4, s5, s6, s7, s8, s9, s10⟩ := FrAt.get hSw
    try dsimp only at hSw
    go_simp
    try exact rfl
  try simp only [Act.put, List.setIfInBounds_toArray, List.set_cons_zero, List.set_cons_succ]
  refine wpAnyH_take (i := 6) (oi := { dst := some 10, op := Op.build 45 #[(0, Operand.const (Go.Value.int Go.IntKind.i64 5))], type := 45, pos := _, after := _, guard := none }) (v := ?_) rfl (by kernel_rfl) (by kernel_rfl) (by kernel_rfl) (fun _ _ _ h => h) (Or.inl ⟨rfl, ?_⟩) hHeld ?_
  rotate_left
  · intro w hSw
    obtain ⟨s0, s1, s2, s3, s4, s5, s6, s7, s8, s9, s10⟩ := FrAt.get hSw
    try dsimp only at hSw
    go_simp
    try exact rfl
  try simp only [Act.put, List.setIfInBounds_toArray, List.set_cons_zero, List.set_cons_succ]
  refine wpAnyH_take (i := 7) (oi := { dst := some 11, op := Op.build 45 #[(0, Operand.const (Go.Value.int Go.IntKind.i64 2))], type := 45, pos := _, after := _, guard := none }) (v := ?_) rfl (by kernel_rfl) (by kernel_rfl) (by kernel_rfl) (fun _ _ _ h => h) (Or.inl ⟨rfl, ?_⟩) hHeld ?_
  rotate_left
  · intro w hSw
    obtain ⟨s0, s1, s2, s3, s4, s5, s6, s7, s8, s9, s10⟩ := FrAt.get hSw
    try dsimp only at hSw
    go_simp
    try exact rfl
  try simp only [Act.put, List.setIfInBounds_toArray, List.set_cons_zero, List.set_cons_succ]
  refine wpAnyH_take (i := 8) (oi := { dst := some 12, op := Op.build 45 #[(0, Operand.const (Go.Value.int Go.IntKind.i64 2))], type := 45, pos := _, after := _, guard := none }) (v := ?_) rfl (by kernel_rfl) (by kernel_rfl) (by kernel_rfl) (fun _ _ _ h => h) (Or.inl ⟨rfl, ?_⟩) hHeld ?_
  rotate_left
  · intro w hSw
    obtain ⟨s0, s1, s2, s3, s4, s5, s6, s7, s8, s9, s10⟩ := FrAt.get hSw
    try dsimp only at hSw
    go_simp
    try exact rfl
  try simp only [Act.put, List.setIfInBounds_toArray, List.set_cons_zero, List.set_cons_succ]
  refine wpAnyH_take (i := 9) (oi := { dst := some 13, op := Op.build 45 #[(0, Operand.const (Go.Value.int Go.IntKind.i64 2))], type := 45, pos := _, after := _, guard := none }) (v := ?_) rfl (by kernel_rfl) (by kernel_rfl) (by kernel_rfl) (fun _ _ _ h => h) (Or.inl ⟨rfl, ?_⟩) hHeld ?_
  rotate_left
  · intro w hSw
    obtain ⟨s0, s1, s2, s3, s4, s5, s6, s7, s8, s9, s10⟩ := FrAt.get hSw
    try dsimp only at hSw
    go_simp
    try exact rfl
  try simp only [Act.put, List.setIfInBounds_toArray, List.set_cons_zero, List.set_cons_succ]
  refine wpAnyH_take (i := 10) (oi := { dst := some 14, op := Op.build 45 #[(0, Operand.const (Go.Value.int Go.IntKind.i64 2))], type := 45, pos := _, after := _, guard := none }) (v := ?_) rfl (by kernel_rfl) (by kernel_rfl) (by kernel_rfl) (fun _ _ _ h => h) (Or.inl ⟨rfl, ?_⟩) hHeld ?_
  rotate_left
  · intro w hSw
    obtain ⟨s0, s1, s2, s3, s4, s5, s6, s7, s8, s9, s10⟩ := FrAt.get hSw
    try dsimp only at hSw
    go_simp
    try exact rfl
  try simp only [Act.put, List.setIfInBounds_toArray, List.set_cons_zero, List.set_cons_succ]
  refine wpAnyH_take (i := 11) (oi := { dst := some 15, op := Op.build 32 #[(0, Operand.const (Go.Value.int Go.IntKind.u16 385)), (3, Operand.const (Go.Value.bool true))], type := 32, pos := _, after := _, guard := none }) (v := ?_) rfl (by kernel_rfl) (by kernel_rfl) (by kernel_rfl) (fun _ _ _ h => h) (Or.inl ⟨rfl, ?_⟩) hHeld ?_
  rotate_left
  · intro w hSw
    obtain ⟨s0, s1, s2, s3, s4, s5, s6, s7, s8, s9, s10⟩ := FrAt.get hSw
    try dsimp only at hSw
    go_simp
    try exact rfl
  try simp only [Act.put, List.setIfInBounds_toArray, List.set_cons_zero, List.set_cons_succ]
  refine wpAnyH_take (i := 12) (oi := { dst := some 16, op := Op.build 45 #[(1, Operand.const (Go.Value.int Go.IntKind.i64 1)), (2, Operand.tmp 15)], type := 45, pos := _, after := _, guard := none }) (v := ?_) rfl (by kernel_rfl) (by kernel_rfl) (by kernel_rfl) (fun _ _ _ h => h) (Or.inl ⟨rfl, ?_⟩) hHeld ?_
  rotate_left
  · intro w hSw
    obtain ⟨s0, s1, s2, s3, s4, s5, s6, s7, s8, s9, s10⟩ := FrAt.get hSw
    try dsimp only at hSw
    go_simp
    try exact rfl
  try simp only [Act.put, List.setIfInBounds_toArray, List.set_cons_zero, List.set_cons_succ]
  refine wpAnyH_take (i := 13) (oi := { dst := some 17, op := Op.load 32 (Operand.tmp 1), type := 32, pos := _, after := _, guard := none }) (v := ?_) rfl (by kernel_rfl) (by kernel_rfl) (by kernel_rfl) (fun _ _ _ h => h) (Or.inl ⟨rfl, ?_⟩) hHeld ?_
  rotate_left
  · intro w hSw
    obtain ⟨s0, s1, s2, s3, s4, s5, s6, s7, s8, s9, s10⟩ := FrAt.get hSw
    try dsimp only at hSw
    go_simp
    try exact rfl
  try simp only [Act.put, List.setIfInBounds_toArray, List.set_cons_zero, List.set_cons_succ]
  refine wpAnyH_take (i := 14) (oi := { dst := some 18, op := Op.build 45 #[(1, Operand.const (Go.Value.int Go.IntKind.i64 3)), (2, Operand.tmp 17)], type := 45, pos := _, after := _, guard := none }) (v := ?_) rfl (by kernel_rfl) (by kernel_rfl) (by kernel_rfl) (fun _ _ _ h => h) (Or.inl ⟨rfl, ?_⟩) hHeld ?_
  rotate_left
  · intro w hSw
    obtain ⟨s0, s1, s2, s3, s4, s5, s6, s7, s8, s9, s10⟩ := FrAt.get hSw
    try dsimp only at hSw
    go_simp
    try exact rfl
  try simp only [Act.put, List.setIfInBounds_toArray, List.set_cons_zero, List.set_cons_succ]
  refine wpAnyH_take (i := 15) (oi := { dst := some 19, op := Op.build 45 #[(0, Operand.const (Go.Value.int Go.IntKind.i64 2))], type := 45, pos := _, after := _, guard := none }) (v := ?_) rfl (by kernel_rfl) (by kernel_rfl) (by kernel_rfl) (fun _ _ _ h => h) (Or.inl ⟨rfl, ?_⟩) hHeld ?_
  rotate_left
  · intro w hSw
    obtain ⟨s0, s1, s2, s3, s4, s5, s6, s7, s8, s9, s10⟩ := FrAt.get hSw
    try dsimp only at hSw
    go_simp
    try exact rfl
  try simp only [Act.put, List.setIfInBounds_toArray, List.set_cons_zero, List.set_cons_succ]
  refine wpAnyH_take (i := 16) (oi := { dst := some 20, op := Op.build 45 #[(0, Operand.const (Go.Value.int Go.IntKind.i64 4)), (1, Operand.const (Go.Value.int Go.IntKind.i64 1))], type := 45, pos := _, after := _, guard := none }) (v := ?_) rfl (by kernel_rfl) (by kernel_rfl) (by kernel_rfl) (fun _ _ _ h => h) (Or.inl ⟨rfl, ?_⟩) hHeld ?_
  rotate_left
  · intro w hSw
    obtain ⟨s0, s1, s2, s3, s4, s5, s6, s7, s8, s9, s10⟩ := FrAt.get hSw
    try dsimp only at hSw
    go_simp
    try exact rfl
  try simp only [Act.put, List.setIfInBounds_toArray, List.set_cons_zero, List.set_cons_succ]
  refine wpAnyH_take (i := 17) (oi := { dst := some 21, op := Op.build 45 #[(0, Operand.const (Go.Value.int Go.IntKind.i64 4)), (1, Operand.const (Go.Value.int Go.IntKind.i64 1))], type := 45, pos := _, after := _, guard := none }) (v := ?_) rfl (by kernel_rfl) (by kernel_rfl) (by kernel_rfl) (fun _ _ _ h => h) (Or.inl ⟨rfl, ?_⟩) hHeld ?_
  rotate_left
  · intro w hSw
    obtain ⟨s0, s1, s2, s3, s4, s5, s6, s7, s8, s9, s10⟩ := FrAt.get hSw
    try dsimp only at hSw
    go_simp
    try exact rfl
  try simp only [Act.put, List.setIfInBounds_toArray, List.set_cons_zero, List.set_cons_succ]
  refine wpAnyH_take (i := 18) (oi := { dst := some 22, op := Op.load 32 (Operand.tmp 1), type := 32, pos := _, after := _, guard := none }) (v := ?_) rfl (by kernel_rfl) (by kernel_rfl) (by kernel_rfl) (fun _ _ _ h => h) (Or.inl ⟨rfl, ?_⟩) hHeld ?_
  rotate_left
  · intro w hSw
    obtain ⟨s0, s1, s2, s3, s4, s5, s6, s7, s8, s9, s10⟩ := FrAt.get hSw
    try dsimp only at hSw
    go_simp
    try exact rfl
  try simp only [Act.put, List.setIfInBounds_toArray, List.set_cons_zero, List.set_cons_succ]
  refine wpAnyH_take (i := 19) (oi := { dst := some 23, op := Op.build 45 #[(1, Operand.const (Go.Value.int Go.IntKind.i64 (-1))), (2, Operand.tmp 22)], type := 45, pos := _, after := _, guard := none }) (v := ?_) rfl (by kernel_rfl) (by kernel_rfl) (by kernel_rfl) (fun _ _ _ h => h) (Or.inl ⟨rfl, ?_⟩) hHeld ?_
  rotate_left
  · intro w hSw
    obtain ⟨s0, s1, s2, s3, s4, s5, s6, s7, s8, s9, s10⟩ := FrAt.get hSw
    try dsimp only at hSw
    go_simp
    try exact rfl
  try simp only [Act.put, List.setIfInBounds_toArray, List.set_cons_zero, List.set_cons_succ]
  refine wpAnyH_take (i := 20) (oi := { dst := some 24, op := Op.build 32 #[(0, Operand.const (Go.Value.int Go.IntKind.u16 2048))], type := 32, pos := _, after := _, guard := none }) (v := ?_) rfl (by kernel_rfl) (by kernel_rfl) (by kernel_rfl) (fun _ _ _ h => h) (Or.inl ⟨rfl, ?_⟩) hHeld ?_
  rotate_left
  · intro w hSw
    obtain ⟨s0, s1, s2, s3, s4, s5, s6, s7, s8, s9, s10⟩ := FrAt.get hSw
    try dsimp only at hSw
    go_simp
    try exact rfl
  try simp only [Act.put, List.setIfInBounds_toArray, List.set_cons_zero, List.set_cons_succ]
  refine wpAnyH_take (i := 21) (oi := { dst := some 25, op := Op.build 45 #[(1, Operand.const (Go.Value.int Go.IntKind.i64 1)), (2, Operand.tmp 24)], type := 45, pos := _, after := _, guard := none }) (v := ?_) rfl (by kernel_rfl) (by kernel_rfl) (by kernel_rfl) (fun _ _ _ h => h) (Or.inl ⟨rfl, ?_⟩) hHeld ?_
  rotate_left
  · intro w hSw
    obtain ⟨s0, s1, s2, s3, s4, s5, s6, s7, s8, s9, s10⟩ := FrAt.get hSw
    try dsimp only at hSw
    go_simp
    try exact rfl
  try simp only [Act.put, List.setIfInBounds_toArray, List.set_cons_zero, List.set_cons_succ]
  refine wpAnyH_take (i := 22) (oi := { dst := some 26, op := Op.build 32 #[(0, Operand.const (Go.Value.int Go.IntKind.u16 2048))], type := 32, pos := _, after := _, guard := none }) (v := ?_) rfl (by kernel_rfl) (by kernel_rfl) (by kernel_rfl) (fun _ _ _ h => h) (Or.inl ⟨rfl, ?_⟩) hHeld ?_
  rotate_left
  · intro w hSw
    obtain ⟨s0, s1, s2, s3, s4, s5, s6, s7, s8, s9, s10⟩ := FrAt.get hSw
    try dsimp only at hSw
    go_simp
    try exact rfl
  try simp only [Act.put, List.setIfInBounds_toArray, List.set_cons_zero, List.set_cons_succ]
  refine wpAnyH_take (i := 23) (oi := { dst := some 27, op := Op.build 45 #[(1, Operand.const (Go.Value.int Go.IntKind.i64 (-1))), (2, Operand.tmp 26)], type := 45, pos := _, after := _, guard := none }) (v := ?_) rfl (by kernel_rfl) (by kernel_rfl) (by kernel_rfl) (fun _ _ _ h => h) (Or.inl ⟨rfl, ?_⟩) hHeld ?_
  rotate_left
  · intro w hSw
    obtain ⟨s0, s1, s2, s3, s4, s5, s6, s7, s8, s9, s10⟩ := FrAt.get hSw
    try dsimp only at hSw
    go_simp
    try exact rfl
  try simp only [Act.put, List.setIfInBounds_toArray, List.set_cons_zero, List.set_cons_succ]
  refine wpAnyH_take (i := 24) (oi := { dst := some 28, op := Op.load 32 (Operand.tmp 1), type := 32, pos := _, after := _, guard := none }) (v := ?_) rfl (by kernel_rfl) (by kernel_rfl) (by kernel_rfl) (fun _ _ _ h => h) (Or.inl ⟨rfl, ?_⟩) hHeld ?_
  rotate_left
  · intro w hSw
    obtain ⟨s0, s1, s2, s3, s4, s5, s6, s7, s8, s9, s10⟩ := FrAt.get hSw
    try dsimp only at hSw
    go_simp
    try exact rfl
  try simp only [Act.put, List.setIfInBounds_toArray, List.set_cons_zero, List.set_cons_succ]
  refine wpAnyH_take (i := 25) (oi := { dst := some 29, op := Op.build 45 #[(1, Operand.const (Go.Value.int Go.IntKind.i64 9223372036854775807)), (2, Operand.tmp 28), (3, Operand.const (Go.Value.int Go.IntKind.i64 510))], type := 45, pos := _, after := _, guard := none }) (v := ?_) rfl (by kernel_rfl) (by kernel_rfl) (by kernel_rfl) (fun _ _ _ h => h) (Or.inl ⟨rfl, ?_⟩) hHeld ?_
  rotate_left
  · intro w hSw
    obtain ⟨s0, s1, s2, s3, s4, s5, s6, s7, s8, s9, s10⟩ := FrAt.get hSw
    try dsimp only at hSw
    go_simp
    try exact rfl
  try simp only [Act.put, List.setIfInBounds_toArray, List.set_cons_zero, List.set_cons_succ]
  refine wpAnyH_take (i := 26) (oi := { dst := some 30, op := Op.load 32 (Operand.tmp 1), type := 32, pos := _, after := _, guard := none }) (v := ?_) rfl (by kernel_rfl) (by kernel_rfl) (by kernel_rfl) (fun _ _ _ h => h) (Or.inl ⟨rfl, ?_⟩) hHeld ?_
  rotate_left
  · intro w hSw
    obtain ⟨s0, s1, s2, s3, s4, s5, s6, s7, s8, s9, s10⟩ := FrAt.get hSw
    try dsimp only at hSw
    go_simp
    try exact rfl
  try simp only [Act.put, List.setIfInBounds_toArray, List.set_cons_zero, List.set_cons_succ]
  refine wpAnyH_take (i := 27) (oi := { dst := some 31, op := Op.build 45 #[(1, Operand.const (Go.Value.int Go.IntKind.i64 1)), (2, Operand.tmp 30)], type := 45, pos := _, after := _, guard := none }) (v := ?_) rfl (by kernel_rfl) (by kernel_rfl) (by kernel_rfl) (fun _ _ _ h => h) (Or.inl ⟨rfl, ?_⟩) hHeld ?_
  rotate_left
  · intro w hSw
    obtain ⟨s0, s1, s2, s3, s4, s5, s6, s7, s8, s9, s10⟩ := FrAt.get hSw
    try dsimp only at hSw
    go_simp
    try exact rfl
  try simp only [Act.put, List.setIfInBounds_toArray, List.set_cons_zero, List.set_cons_succ]
  refine wpAnyH_take (i := 28) (oi := { dst := some 32, op := Op.load 32 (Operand.tmp 1), type := 32, pos := _, after := _, guard := none }) (v := ?_) rfl (by kernel_rfl) (by kernel_rfl) (by kernel_rfl) (fun _ _ _ h => h) (Or.inl ⟨rfl, ?_⟩) hHeld ?_
  rotate_left
  · intro w hSw
    obtain ⟨s0, s1, s2, s3, s4, s5, s6, s7, s8, s9, s10⟩ := FrAt.get hSw
    try dsimp only at hSw
    go_simp
    try exact rfl
  try simp only [Act.put, List.setIfInBounds_toArray, List.set_cons_zero, List.set_cons_succ]
  refine wpAnyH_take (i := 29) (oi := { dst := some 33, op := Op.build 45 #[(1, Operand.const (Go.Value.int Go.IntKind.i64 1)), (2, Operand.tmp 32)], type := 45, pos := _, after := _, guard := none }) (v := ?_) rfl (by kernel_rfl) (by kernel_rfl) (by kernel_rfl) (fun _ _ _ h => h) (Or.inl ⟨rfl, ?_⟩) hHeld ?_
  rotate_left
  · intro w hSw
    obtain ⟨s0, s1, s2, s3, s4, s5, s6, s7, s8, s9, s10⟩ := FrAt.get hSw
    try dsimp only at hSw
    go_simp
    try exact rfl
  try simp only [Act.put, List.setIfInBounds_toArray, List.set_cons_zero, List.set_cons_succ]
  refine wpAnyH_take (i := 30) (oi := { dst := some 34, op := Op.build 32 #[(1, Operand.const (Go.Value.int Go.IntKind.i64 9))], type := 32, pos := _, after := _, guard := none }) (v := ?_) rfl (by kernel_rfl) (by kernel_rfl) (by kernel_rfl) (fun _ _ _ h => h) (Or.inl ⟨rfl, ?_⟩) hHeld ?_
  rotate_left
  · intro w hSw
    obtain ⟨s0, s1, s2, s3, s4, s5, s6, s7, s8, s9, s10⟩ := FrAt.get hSw
    try dsimp only at hSw
    go_simp
    try exact rfl
  try simp only [Act.put, List.setIfInBounds_toArray, List.set_cons_zero, List.set_cons_succ]
  refine wpAnyH_take (i := 31) (oi := { dst := some 35, op := Op.build 45 #[(1, Operand.const (Go.Value.int Go.IntKind.i64 1)), (2, Operand.tmp 34)], type := 45, pos := _, after := _, guard := none }) (v := ?_) rfl (by kernel_rfl) (by kernel_rfl) (by kernel_rfl) (fun _ _ _ h => h) (Or.inl ⟨rfl, ?_⟩) hHeld ?_
  rotate_left
  · intro w hSw
    obtain ⟨s0, s1, s2, s3, s4, s5, s6, s7, s8, s9, s10⟩ := FrAt.get hSw
    try dsimp only at hSw
    go_simp
    try exact rfl
  try simp only [Act.put, List.setIfInBounds_toArray, List.set_cons_zero, List.set_cons_succ]
  refine wpAnyH_take (i := 32) (oi := { dst := some 36, op := Op.build 45 #[(0, Operand.const (Go.Value.int Go.IntKind.i64 2))], type := 45, pos := _, after := _, guard := none }) (v := ?_) rfl (by kernel_rfl) (by kernel_rfl) (by kernel_rfl) (fun _ _ _ h => h) (Or.inl ⟨rfl, ?_⟩) hHeld ?_
  rotate_left
  · intro w hSw
    obtain ⟨s0, s1, s2, s3, s4, s5, s6, s7, s8, s9, s10⟩ := FrAt.get hSw
    try dsimp only at hSw
    go_simp
    try exact rfl
  try simp only [Act.put, List.setIfInBounds_toArray, List.set_cons_zero, List.set_cons_succ]
  refine wpAnyH_take (i := 33) (oi := { dst := some 37, op := Op.load 32 (Operand.tmp 1), type := 32, pos := _, after := _, guard := none }) (v := ?_) rfl (by kernel_rfl) (by kernel_rfl) (by kernel_rfl) (fun _ _ _ h => h) (Or.inl ⟨rfl, ?_⟩) hHeld ?_
  rotate_left
  · intro w hSw
    obtain ⟨s0, s1, s2, s3, s4, s5, s6, s7, s8, s9, s10⟩ := FrAt.get hSw
    try dsimp only at hSw
    go_simp
    try exact rfl
  try simp only [Act.put, List.setIfInBounds_toArray, List.set_cons_zero, List.set_cons_succ]
  refine wpAnyH_take (i := 34) (oi := { dst := some 38, op := Op.build 45 #[(1, Operand.const (Go.Value.int Go.IntKind.i64 1)), (2, Operand.tmp 37)], type := 45, pos := _, after := _, guard := none }) (v := ?_) rfl (by kernel_rfl) (by kernel_rfl) (by kernel_rfl) (fun _ _ _ h => h) (Or.inl ⟨rfl, ?_⟩) hHeld ?_
  rotate_left
  · intro w hSw
    obtain ⟨s0, s1, s2, s3, s4, s5, s6, s7, s8, s9, s10⟩ := FrAt.get hSw
    try dsimp only at hSw
    go_simp
    try exact rfl
  try simp only [Act.put, List.setIfInBounds_toArray, List.set_cons_zero, List.set_cons_succ]
  refine wpAnyH_take (i := 35) (oi := { dst := some 39, op := Op.load 32 (Operand.tmp 1), type := 32, pos := _, after := _, guard := none }) (v := ?_) rfl (by kernel_rfl) (by kernel_rfl) (by kernel_rfl) (fun _ _ _ h => h) (Or.inl ⟨rfl, ?_⟩) hHeld ?_
  rotate_left
  · intro w hSw
    obtain ⟨s0, s1, s2, s3, s4, s5, s6, s7, s8, s9, s10⟩ := FrAt.get hSw
    try dsimp only at hSw
    go_simp
    try exact rfl
  try simp only [Act.put, List.setIfInBounds_toArray, List.set_cons_zero, List.set_cons_succ]
  refine wpAnyH_take (i := 36) (oi := { dst := some 40, op := Op.build 45 #[(1, Operand.const (Go.Value.int Go.IntKind.i64 1)), (2, Operand.tmp 39)], type := 45, pos := _, after := _, guard := none }) (v := ?_) rfl (by kernel_rfl) (by kernel_rfl) (by kernel_rfl) (fun _ _ _ h => h) (Or.inl ⟨rfl, ?_⟩) hHeld ?_
  rotate_left
  · intro w hSw
    obtain ⟨s0, s1, s2, s3, s4, s5, s6, s7, s8, s9, s10⟩ := FrAt.get hSw
    try dsimp only at hSw
    go_simp
    try exact rfl
  try simp only [Act.put, List.setIfInBounds_toArray, List.set_cons_zero, List.set_cons_succ]
  refine wpAnyH_take (i := 37) (oi := { dst := some 41, op := Op.build 45 #[(0, Operand.const (Go.Value.int Go.IntKind.i64 4)), (1, Operand.const (Go.Value.int Go.IntKind.i64 9223372036854775807))], type := 45, pos := _, after := _, guard := none }) (v := ?_) rfl (by kernel_rfl) (by kernel_rfl) (by kernel_rfl) (fun _ _ _ h => h) (Or.inl ⟨rfl, ?_⟩) hHeld ?_
  rotate_left
  · intro w hSw
    obtain ⟨s0, s1, s2, s3, s4, s5, s6, s7, s8, s9, s10⟩ := FrAt.get hSw
    try dsimp only at hSw
    go_simp
    try exact rfl
  try simp only [Act.put, List.setIfInBounds_toArray, List.set_cons_zero, List.set_cons_succ]
  refine wpAnyH_ready (rs := [4]) (by kernel_rfl) (by simp) ?_
  refine AllReadyH.cons (o := { dst := some 8, op := Op.call { callee := Go.Callee.value (Operand.func 19), args := #[Operand.const (Go.Value.int Go.IntKind.u16 385), Operand.const (Go.Value.int Go.IntKind.u8 2)], argTypes := #[29, 5] }, type := 32, pos := _, after := _, guard := none }) rfl (fun K hK => ?_) AllReadyH.nil
  rw [if_pos (by rfl)]
  go_simp
  refine (bf_any 385 2 wd).mono ?_
  rintro e w2 ⟨rfl, hb2⟩
  have hS2 : FrAt b w2 := blk_below hHeld hb2
  have HW2 := Aside0.mk (HWD.out.trans (hb2.mono HWD.out.size))
  refine hK.out _ _ hS2 (fun hHeld2 => ?_)
  clear hK K hHeld hb2 hS2
  try simp only [Act.put, List.setIfInBounds_toArray, List.set_cons_zero, List.set_cons_succ]
  refine wpAnyH_take (i := 5) (oi := { dst := some 9, op := Op.build 45 #[(1, Operand.const (Go.Value.int Go.IntKind.i64 1)), (2, Operand.tmp 8)], type := 45, pos := _, after := _, guard := none }) (v := ?_) rfl (by kernel_rfl) (by kernel_rfl) (by kernel_rfl) (fun _ _ _ h => h) (Or.inl ⟨rfl, ?_⟩) hHeld2 ?_
  rotate_left
  · intro w hSw
    obtain ⟨s0, s1, s2, s3, s4, s5, s6, s7, s8, s9, s10⟩ := FrAt.get hSw
    try dsimp only at hSw
    go_simp
    try exact rfl
  try simp only [Act.put, List.setIfInBounds_toArray, List.set_cons_zero, List.set_cons_succ]
  refine wpAnyH_ready (rs := [38]) (by kernel_rfl) (by simp) ?_
  refine AllReadyH.cons (o := { dst := some 42, op := Op.buildSlice 43 24 #[(0, Operand.tmp 5), (1, Operand.tmp 7), (2, Operand.tmp 9), (3, Operand.tmp 10), (4, Operand.tmp 11), (5, Operand.tmp 12), (6, Operand.tmp 13), (7, Operand.tmp 14), (8, Operand.tmp 16), (9, Operand.tmp 18), (10, Operand.tmp 19), (11, Operand.tmp 20), (12, Operand.tmp 21), (13, Operand.tmp 23), (14, Operand.tmp 25), (15, Operand.tmp 27), (16, Operand.tmp 29), (17, Operand.tmp 31), (18, Operand.tmp 33), (19, Operand.tmp 35), (20, Operand.tmp 36), (21, Operand.tmp 38), (22, Operand.tmp 40), (23, Operand.tmp 41)], type := 43, pos := _, after := _, guard := none }) rfl (fun K hK => ?_) AllReadyH.nil
  refine event_step (v := .slice (some ⟨w2.heap.size, 0, none⟩) 24 24) (w1 := w2.alloc (.cells (rowK.map fun s => s.cells.toList).flatten.toArray 45)) (by rfl) ?hr ?_
  case hr => kernel_rfl
  have hba := below_alloc (Below.refl w2.heap.size w2) (.cells (rowK.map fun s => s.cells.toList).flatten.toArray 45)
  have hna := heap_alloc_new w2 (.cells (rowK.map fun s => s.cells.toList).flatten.toArray 45)
  have hS3 : FrAt b (w2.alloc (.cells (rowK.map fun s => s.cells.toList).flatten.toArray 45)) := blk_below hHeld2 hba
  have HST := Aside0.mk (sts_lit (l := rowK) hna)
  have HW3 := Aside0.mk (HW2.out.trans (hba.mono HW2.out.size))
  refine hK.out _ _ hS3 (fun hHeld3 => ?_)
  clear hK K hHeld2 hS3 hba hna
  generalize w2.heap.size = rb at HST ⊢
  generalize w2.alloc (.cells (rowK.map fun s => s.cells.toList).flatten.toArray 45) = W3 at HST HW3 hHeld3 ⊢
  try simp only [Act.put, List.setIfInBounds_toArray, List.set_cons_zero, List.set_cons_succ]
  refine wpAnyH_take (i := 39) (oi := { dst := some 2, op := Op.assign (Operand.tmp 42), type := 43, pos := _, after := _, guard := none }) (v := ?_) rfl (by kernel_rfl) (by kernel_rfl) (by kernel_rfl) (fun _ _ _ h => h) (Or.inl ⟨rfl, ?_⟩) hHeld3 ?_
  rotate_left
  · intro w hSw
    try dsimp only at hSw
    go_simp
    try exact rfl
  try simp only [Act.put, List.setIfInBounds_toArray, List.set_cons_zero, List.set_cons_succ]
  refine wpAnyH_done (by kernel_rfl) ?_ _
  go_wp2_with (fail)
  have hS4 : FrAt b W3.drew := hHeld3
  have HST4 := Aside0.mk (HST.out.below (show Below W3.heap.size W3 W3.drew from below_drew (Below.refl _ _)))
  have HW4 := Aside0.mk (show Below w.heap.size w W3.drew from HW3.out.trans ((below_drew (Below.refl _ _)).mono HW3.out.size))
  refine wp_region_held_drew (S := FrAt b) (by kernel_rfl) hS4 (fun hHeld4 => ?_)
  clear hS4 hHeld3 HST HW3
  generalize W3.drew = w4 at HST4 HW4 hHeld4 ⊢
  refine wpAnyH_take (i := 0) (oi := { dst := some 43, op := Op.move (Operand.tmp 2), type := 43, pos := _, after := _, guard := none }) (v := ?_) rfl (by kernel_rfl) (by kernel_rfl) (by kernel_rfl) (fun _ _ _ h => h) (Or.inl ⟨rfl, ?_⟩) hHeld4 ?_
  rotate_left
  · intro w hSw
    obtain ⟨s0, s1, s2, s3, s4, s5, s6, s7, s8, s9, s10⟩ := FrAt.get hSw
    try dsimp only at hSw
    go_simp
    try exact rfl
  try simp only [Act.put, List.setIfInBounds_toArray, List.set_cons_zero, List.set_cons_succ]
  refine wpAnyH_ready (rs := [1]) (by kernel_rfl) (by simp) ?_
  refine AllReadyH.cons (o := { dst := some 44, op := Op.call { callee := Go.Callee.value (Operand.func 4), args := #[Operand.tmp 43], argTypes := #[43] }, type := 4, pos := _, after := _, guard := none }) rfl (fun K hK => ?_) AllReadyH.nil
  rw [if_pos (by rfl)]
  go_simp
  refine (show Calls Try.prog 4 #[.slice (some ⟨rb, 0, none⟩) 24 24] w4 _ from plays_any (some ⟨rb, 0, none⟩) 24 rowK w4 HST4.out).mono ?_
  rintro e w5 ⟨rfl, hb⟩
  have hS : FrAt b w5 := blk_below hHeld4 hb
  have HW5 := Aside0.mk (HW4.out.trans (hb.mono HW4.out.size))
  refine hK.out _ _ hS (fun hHeld5 => ?_)
  clear hK K hb hS hHeld4
  try simp only [Act.put, List.setIfInBounds_toArray, List.set_cons_zero, List.set_cons_succ]
  refine wpAnyH_take (i := 2) (oi := { dst := some 45, op := Op.move (Operand.tmp 44), type := 4, pos := _, after := _, guard := none }) (v := ?_) rfl (by kernel_rfl) (by kernel_rfl) (by kernel_rfl) (fun _ _ _ h => h) (Or.inl ⟨rfl, ?_⟩) hHeld5 ?_
  rotate_left
  · intro w hSw
    obtain ⟨s0, s1, s2, s3, s4, s5, s6, s7, s8, s9, s10⟩ := FrAt.get hSw
    try dsimp only at hSw
    go_simp
    try exact rfl
  try simp only [Act.put, List.setIfInBounds_toArray, List.set_cons_zero, List.set_cons_succ]
  refine wpAnyH_take (i := 3) (oi := { dst := some 46, op := Op.load 32 (Operand.tmp 1), type := 32, pos := _, after := _, guard := some (2, true) }) (v := ?_) rfl (by kernel_rfl) (by kernel_rfl) (by kernel_rfl) (fun _ _ _ h => h) (Or.inl ⟨rfl, ?_⟩) hHeld5 ?_
  rotate_left
  · intro w hSw
    obtain ⟨s0, s1, s2, s3, s4, s5, s6, s7, s8, s9, s10⟩ := FrAt.get hSw
    try dsimp only at hSw
    go_simp
    try exact rfl
  try simp only [Act.put, List.setIfInBounds_toArray, List.set_cons_zero, List.set_cons_succ]
  refine wpAnyH_ready (rs := [4]) (by kernel_rfl) (by simp) ?_
  refine AllReadyH.cons (o := { dst := some 47, op := Op.call { callee := Go.Callee.value (Operand.func 5), args := #[Operand.const (Go.Value.int Go.IntKind.i64 1), Operand.tmp 46], argTypes := #[3, 32] }, type := 4, pos := _, after := _, guard := some (2, true) }) rfl (fun K hK => ?_) AllReadyH.nil
  rw [if_pos (by rfl)]
  go_simp
  refine (show Calls Try.prog 5 #[.int .i64 1, .agg #[.int .u16 385, .int .i64 1, .int .u8 1, .int .u8 0, .int .u8 0, .int .u8 0, .int .u8 0, .int .u8 0, .int .u8 0, .int .u8 0, .bool false]] w5 _ from none_any 1 (fA 0 1) w5).mono ?_
  rintro e w6 ⟨rfl, hb⟩
  have hS : FrAt b w6 := blk_below hHeld5 hb
  have HW6 := Aside0.mk (HW5.out.trans (hb.mono HW5.out.size))
  refine hK.out _ _ hS (fun hHeld6 => ?_)
  clear hK K hb hS hHeld5
  try simp only [Act.put, List.setIfInBounds_toArray, List.set_cons_zero, List.set_cons_succ]
  refine wpAnyH_take (i := 5) (oi := { dst := some 48, op := Op.pick (Operand.tmp 45) (Operand.tmp 47) (Operand.const (Go.Value.bool false)), type := 4, pos := _, after := _, guard := none }) (v := ?_) rfl (by kernel_rfl) (by kernel_rfl) (by kernel_rfl) (fun _ _ _ h => h) (Or.inl ⟨rfl, ?_⟩) hHeld6 ?_
  rotate_left
  · intro w hSw
    obtain ⟨s0, s1, s2, s3, s4, s5, s6, s7, s8, s9, s10⟩ := FrAt.get hSw
    try dsimp only at hSw
    go_simp
    try exact rfl
  try simp only [Act.put, List.setIfInBounds_toArray, List.set_cons_zero, List.set_cons_succ]
  refine wpAnyH_take (i := 6) (oi := { dst := some 49, op := Op.move (Operand.tmp 48), type := 4, pos := _, after := _, guard := none }) (v := ?_) rfl (by kernel_rfl) (by kernel_rfl) (by kernel_rfl) (fun _ _ _ h => h) (Or.inl ⟨rfl, ?_⟩) hHeld6 ?_
  rotate_left
  · intro w hSw
    obtain ⟨s0, s1, s2, s3, s4, s5, s6, s7, s8, s9, s10⟩ := FrAt.get hSw
    try dsimp only at hSw
    go_simp
    try exact rfl
  try simp only [Act.put, List.setIfInBounds_toArray, List.set_cons_zero, List.set_cons_succ]
  refine wpAnyH_take (i := 7) (oi := { dst := some 50, op := Op.load 32 (Operand.tmp 1), type := 32, pos := _, after := _, guard := some (6, true) }) (v := ?_) rfl (by kernel_rfl) (by kernel_rfl) (by kernel_rfl) (fun _ _ _ h => h) (Or.inl ⟨rfl, ?_⟩) hHeld6 ?_
  rotate_left
  · intro w hSw
    obtain ⟨s0, s1, s2, s3, s4, s5, s6, s7, s8, s9, s10⟩ := FrAt.get hSw
    try dsimp only at hSw
    go_simp
    try exact rfl
  try simp only [Act.put, List.setIfInBounds_toArray, List.set_cons_zero, List.set_cons_succ]
  refine wpAnyH_take (i := 8) (oi := { dst := some 51, op := Op.build 32 #[], type := 32, pos := _, after := _, guard := some (6, true) }) (v := ?_) rfl (by kernel_rfl) (by kernel_rfl) (by kernel_rfl) (fun _ _ _ h => h) (Or.inl ⟨rfl, ?_⟩) hHeld6 ?_
  rotate_left
  · intro w hSw
    obtain ⟨s0, s1, s2, s3, s4, s5, s6, s7, s8, s9, s10⟩ := FrAt.get hSw
    try dsimp only at hSw
    go_simp
    try exact rfl
  try simp only [Act.put, List.setIfInBounds_toArray, List.set_cons_zero, List.set_cons_succ]
  refine wpAnyH_take (i := 9) (oi := { dst := some 52, op := Op.load 32 (Operand.tmp 1), type := 32, pos := _, after := _, guard := some (6, true) }) (v := ?_) rfl (by kernel_rfl) (by kernel_rfl) (by kernel_rfl) (fun _ _ _ h => h) (Or.inl ⟨rfl, ?_⟩) hHeld6 ?_
  rotate_left
  · intro w hSw
    obtain ⟨s0, s1, s2, s3, s4, s5, s6, s7, s8, s9, s10⟩ := FrAt.get hSw
    try dsimp only at hSw
    go_simp
    try exact rfl
  try simp only [Act.put, List.setIfInBounds_toArray, List.set_cons_zero, List.set_cons_succ]
  refine wpAnyH_take (i := 10) (oi := { dst := some 53, op := Op.build 32 #[(0, Operand.const (Go.Value.int Go.IntKind.u16 385)), (3, Operand.const (Go.Value.bool true))], type := 32, pos := _, after := _, guard := some (6, true) }) (v := ?_) rfl (by kernel_rfl) (by kernel_rfl) (by kernel_rfl) (fun _ _ _ h => h) (Or.inl ⟨rfl, ?_⟩) hHeld6 ?_
  rotate_left
  · intro w hSw
    obtain ⟨s0, s1, s2, s3, s4, s5, s6, s7, s8, s9, s10⟩ := FrAt.get hSw
    try dsimp only at hSw
    go_simp
    try exact rfl
  try simp only [Act.put, List.setIfInBounds_toArray, List.set_cons_zero, List.set_cons_succ]
  refine wpAnyH_take (i := 12) (oi := { dst := some 55, op := Op.build 32 #[(0, Operand.const (Go.Value.int Go.IntKind.u16 1))], type := 32, pos := _, after := _, guard := some (6, true) }) (v := ?_) rfl (by kernel_rfl) (by kernel_rfl) (by kernel_rfl) (fun _ _ _ h => h) (Or.inl ⟨rfl, ?_⟩) hHeld6 ?_
  rotate_left
  · intro w hSw
    obtain ⟨s0, s1, s2, s3, s4, s5, s6, s7, s8, s9, s10⟩ := FrAt.get hSw
    try dsimp only at hSw
    go_simp
    try exact rfl
  try simp only [Act.put, List.setIfInBounds_toArray, List.set_cons_zero, List.set_cons_succ]
  refine wpAnyH_ready (rs := [11, 14]) (by kernel_rfl) (by simp) ?_
  refine AllReadyH.cons (o := { dst := some 54, op := Op.call { callee := Go.Callee.value (Operand.func 19), args := #[Operand.const (Go.Value.int Go.IntKind.u16 385), Operand.const (Go.Value.int Go.IntKind.u8 9)], argTypes := #[29, 5] }, type := 32, pos := _, after := _, guard := some (6, true) }) rfl (fun K hK => ?_) (AllReadyH.cons (o := { dst := some 57, op := Op.buildSlice 23 4 #[(0, Operand.const (Go.Value.int Go.IntKind.i64 0)), (1, Operand.const (Go.Value.int Go.IntKind.i64 1)), (2, Operand.const (Go.Value.int Go.IntKind.i64 0)), (3, Operand.const (Go.Value.int Go.IntKind.i64 2))], type := 23, pos := _, after := _, guard := some (6, true) }) rfl (fun K hK => ?_) AllReadyH.nil)
  ·
    rw [if_pos (by rfl)]
    go_simp
    refine (bf_any 385 9 w6).mono ?_
    rintro e w7 ⟨rfl, hb⟩
    have hS : FrAt b w7 := blk_below hHeld6 hb
    have HW7 := Aside0.mk (HW6.out.trans (hb.mono HW6.out.size))
    refine hK.out _ _ hS (fun hHeld7 => ?_)
    clear hK K hb hS hHeld6
    try simp only [Act.put, List.setIfInBounds_toArray, List.set_cons_zero, List.set_cons_succ]
    refine wpAnyH_ready (rs := [13, 14]) (by kernel_rfl) (by simp) ?_
    refine AllReadyH.cons (o := { dst := some 56, op := Op.buildSlice 22 6 #[(0, Operand.tmp 50), (1, Operand.tmp 51), (2, Operand.tmp 52), (3, Operand.tmp 53), (4, Operand.tmp 54), (5, Operand.tmp 55)], type := 22, pos := _, after := _, guard := some (6, true) }) rfl (fun K hK => ?_) (AllReadyH.cons (o := { dst := some 57, op := Op.buildSlice 23 4 #[(0, Operand.const (Go.Value.int Go.IntKind.i64 0)), (1, Operand.const (Go.Value.int Go.IntKind.i64 1)), (2, Operand.const (Go.Value.int Go.IntKind.i64 0)), (3, Operand.const (Go.Value.int Go.IntKind.i64 2))], type := 23, pos := _, after := _, guard := some (6, true) }) rfl (fun K hK => ?_) AllReadyH.nil)
    ·
      refine event_step (v := .slice (some ⟨w7.heap.size, 0, none⟩) 6 6) (w1 := w7.alloc (.cells (frsK.map fun s => s.fcells.toList).flatten.toArray 32)) (by rfl) ?hr8 ?_
      case hr8 => kernel_rfl
      have hb := below_alloc (Below.refl w7.heap.size w7) (.cells (frsK.map fun s => s.fcells.toList).flatten.toArray 32)
      have hna := heap_alloc_new w7 (.cells (frsK.map fun s => s.fcells.toList).flatten.toArray 32)
      have hS : FrAt b (w7.alloc (.cells (frsK.map fun s => s.fcells.toList).flatten.toArray 32)) := blk_below hHeld7 hb
      have HW8 := Aside0.mk (HW7.out.trans (hb.mono HW7.out.size))
      have HFRS := Aside0.mk (frs_lit (l := frsK) hna)
      refine hK.out _ _ hS (fun hHeld8 => ?_)
      clear hK K hb hS hna hHeld7
      generalize w7.heap.size = fb8 at HFRS ⊢
      generalize w7.alloc (.cells (frsK.map fun s => s.fcells.toList).flatten.toArray 32) = w8 at HW8 hHeld8 HFRS ⊢
      try simp only [Act.put, List.setIfInBounds_toArray, List.set_cons_zero, List.set_cons_succ]
      refine wpAnyH_ready (rs := [14]) (by kernel_rfl) (by simp) ?_
      refine AllReadyH.cons (o := { dst := some 57, op := Op.buildSlice 23 4 #[(0, Operand.const (Go.Value.int Go.IntKind.i64 0)), (1, Operand.const (Go.Value.int Go.IntKind.i64 1)), (2, Operand.const (Go.Value.int Go.IntKind.i64 0)), (3, Operand.const (Go.Value.int Go.IntKind.i64 2))], type := 23, pos := _, after := _, guard := some (6, true) }) rfl (fun K hK => ?_) AllReadyH.nil
      refine event_step (v := .slice (some ⟨w8.heap.size, 0, none⟩) 4 4) (w1 := w8.alloc (.cells (([0, 1, 0, 2] : List Int).map fun z => Value.int .i64 z).toArray 3)) (by rfl) ?hr9 ?_
      case hr9 => kernel_rfl
      have hb := below_alloc (Below.refl w8.heap.size w8) (.cells (([0, 1, 0, 2] : List Int).map fun z => Value.int .i64 z).toArray 3)
      have hna := heap_alloc_new w8 (.cells (([0, 1, 0, 2] : List Int).map fun z => Value.int .i64 z).toArray 3)
      have hS : FrAt b (w8.alloc (.cells (([0, 1, 0, 2] : List Int).map fun z => Value.int .i64 z).toArray 3)) := blk_below hHeld8 hb
      have HW9 := Aside0.mk (HW8.out.trans (hb.mono HW8.out.size))
      have HFRS := Aside0.mk (HFRS.out.below hb)
      have HINT := Aside0.mk (ints_lit (l := [0, 1, 0, 2]) hna)
      refine hK.out _ _ hS (fun hHeld9 => ?_)
      clear hK K hb hS hna hHeld8
      generalize w8.heap.size = zb9 at HINT ⊢
      generalize w8.alloc (.cells (([0, 1, 0, 2] : List Int).map fun z => Value.int .i64 z).toArray 3) = w9 at HW9 hHeld9 HFRS HINT ⊢
      try simp only [Act.put, List.setIfInBounds_toArray, List.set_cons_zero, List.set_cons_succ]
      refine wpAnyH_ready (rs := [15]) (by kernel_rfl) (by simp) ?_
      refine AllReadyH.cons (o := { dst := some 58, op := Op.call { callee := Go.Callee.value (Operand.func 3), args := #[Operand.tmp 56, Operand.tmp 57], argTypes := #[22, 23] }, type := 4, pos := _, after := _, guard := some (6, true) }) rfl (fun K hK => ?_) AllReadyH.nil
      rw [if_pos (by rfl)]
      go_simp
      refine (show Calls Try.prog 3 #[.slice (some ⟨fb8, 0, none⟩) 6 6, .slice (some ⟨zb9, 0, none⟩) 4 4] w9 _ from once_any (some ⟨fb8, 0, none⟩) (some ⟨zb9, 0, none⟩) 6 4 frsK [0, 1, 0, 2] w9 HFRS.out HINT.out).mono ?_
      rintro e w10 ⟨rfl, hb⟩
      have hS : FrAt b w10 := blk_below hHeld9 hb
      have HW10 := Aside0.mk (HW9.out.trans (hb.mono HW9.out.size))
      refine hK.out _ _ hS (fun hHeld10 => ?_)
      clear hK K hb hS hHeld9
      try simp only [Act.put, List.setIfInBounds_toArray, List.set_cons_zero, List.set_cons_succ]
      refine wpAnyH_take (i := 16) (oi := { dst := some 59, op := Op.pick (Operand.tmp 49) (Operand.tmp 58) (Operand.const (Go.Value.bool false)), type := 4, pos := _, after := _, guard := none }) (v := ?_) rfl (by kernel_rfl) (by kernel_rfl) (by kernel_rfl) (fun _ _ _ h => h) (Or.inl ⟨rfl, ?_⟩) hHeld10 ?_
      rotate_left
      · intro w hSw
        obtain ⟨s0, s1, s2, s3, s4, s5, s6, s7, s8, s9, s10⟩ := FrAt.get hSw
        try dsimp only at hSw
        go_simp
        try exact rfl
      try simp only [Act.put, List.setIfInBounds_toArray, List.set_cons_zero, List.set_cons_succ]
      refine wpAnyH_take (i := 17) (oi := { dst := some 60, op := Op.move (Operand.tmp 59), type := 4, pos := _, after := _, guard := none }) (v := ?_) rfl (by kernel_rfl) (by kernel_rfl) (by kernel_rfl) (fun _ _ _ h => h) (Or.inl ⟨rfl, ?_⟩) hHeld10 ?_
      rotate_left
      · intro w hSw
        obtain ⟨s0, s1, s2, s3, s4, s5, s6, s7, s8, s9, s10⟩ := FrAt.get hSw
        try dsimp only at hSw
        go_simp
        try exact rfl
      try simp only [Act.put, List.setIfInBounds_toArray, List.set_cons_zero, List.set_cons_succ]
      refine wpAnyH_ready (rs := [18]) (by kernel_rfl) (by simp) ?_
      refine AllReadyH.cons (o := { dst := some 61, op := Op.call { callee := Go.Callee.value (Operand.func 13), args := #[], argTypes := #[] }, type := 4, pos := _, after := _, guard := some (17, true) }) rfl (fun K hK => ?_) AllReadyH.nil
      rw [if_pos (by rfl)]
      go_simp
      refine (works_any w10).mono ?_
      rintro e w110 ⟨rfl, hb⟩
      have hS : FrAt b w110 := blk_below hHeld10 hb
      have HW110 := Aside0.mk (HW10.out.trans (hb.mono HW10.out.size))
      refine hK.out _ _ hS (fun hHeld110 => ?_)
      clear hK K hb hS hHeld10
      try simp only [Act.put, List.setIfInBounds_toArray, List.set_cons_zero, List.set_cons_succ]
      refine wpAnyH_take (i := 19) (oi := { dst := some 62, op := Op.pick (Operand.tmp 60) (Operand.tmp 61) (Operand.const (Go.Value.bool false)), type := 4, pos := _, after := _, guard := none }) (v := ?_) rfl (by kernel_rfl) (by kernel_rfl) (by kernel_rfl) (fun _ _ _ h => h) (Or.inl ⟨rfl, ?_⟩) hHeld110 ?_
      rotate_left
      · intro w hSw
        obtain ⟨s0, s1, s2, s3, s4, s5, s6, s7, s8, s9, s10⟩ := FrAt.get hSw
        try dsimp only at hSw
        go_simp
        try exact rfl
      try simp only [Act.put, List.setIfInBounds_toArray, List.set_cons_zero, List.set_cons_succ]
      refine wpAnyH_take (i := 20) (oi := { dst := some 0, op := Op.assign (Operand.tmp 62), type := 4, pos := _, after := _, guard := none }) (v := ?_) rfl (by kernel_rfl) (by kernel_rfl) (by kernel_rfl) (fun _ _ _ h => h) (Or.inl ⟨rfl, ?_⟩) hHeld110 ?_
      rotate_left
      · intro w hSw
        obtain ⟨s0, s1, s2, s3, s4, s5, s6, s7, s8, s9, s10⟩ := FrAt.get hSw
        try dsimp only at hSw
        go_simp
        try exact rfl
      try simp only [Act.put, List.setIfInBounds_toArray, List.set_cons_zero, List.set_cons_succ]
      refine wpAnyH_done (by kernel_rfl) ?_ _
      go_wp2_with (fail)
      go_ret
      exact ⟨rfl, HW110.out⟩
    ·
      refine event_step (v := .slice (some ⟨w7.heap.size, 0, none⟩) 4 4) (w1 := w7.alloc (.cells (([0, 1, 0, 2] : List Int).map fun z => Value.int .i64 z).toArray 3)) (by rfl) ?hr11 ?_
      case hr11 => kernel_rfl
      have hb := below_alloc (Below.refl w7.heap.size w7) (.cells (([0, 1, 0, 2] : List Int).map fun z => Value.int .i64 z).toArray 3)
      have hna := heap_alloc_new w7 (.cells (([0, 1, 0, 2] : List Int).map fun z => Value.int .i64 z).toArray 3)
      have hS : FrAt b (w7.alloc (.cells (([0, 1, 0, 2] : List Int).map fun z => Value.int .i64 z).toArray 3)) := blk_below hHeld7 hb
      have HW11 := Aside0.mk (HW7.out.trans (hb.mono HW7.out.size))
      have HINT := Aside0.mk (ints_lit (l := [0, 1, 0, 2]) hna)
      refine hK.out _ _ hS (fun hHeld11 => ?_)
      clear hK K hb hS hna hHeld7
      generalize w7.heap.size = zb11 at HINT ⊢
      generalize w7.alloc (.cells (([0, 1, 0, 2] : List Int).map fun z => Value.int .i64 z).toArray 3) = w11 at HW11 hHeld11 HINT ⊢
      try simp only [Act.put, List.setIfInBounds_toArray, List.set_cons_zero, List.set_cons_succ]
      refine wpAnyH_ready (rs := [13]) (by kernel_rfl) (by simp) ?_
      refine AllReadyH.cons (o := { dst := some 56, op := Op.buildSlice 22 6 #[(0, Operand.tmp 50), (1, Operand.tmp 51), (2, Operand.tmp 52), (3, Operand.tmp 53), (4, Operand.tmp 54), (5, Operand.tmp 55)], type := 22, pos := _, after := _, guard := some (6, true) }) rfl (fun K hK => ?_) AllReadyH.nil
      refine event_step (v := .slice (some ⟨w11.heap.size, 0, none⟩) 6 6) (w1 := w11.alloc (.cells (frsK.map fun s => s.fcells.toList).flatten.toArray 32)) (by rfl) ?hr12 ?_
      case hr12 => kernel_rfl
      have hb := below_alloc (Below.refl w11.heap.size w11) (.cells (frsK.map fun s => s.fcells.toList).flatten.toArray 32)
      have hna := heap_alloc_new w11 (.cells (frsK.map fun s => s.fcells.toList).flatten.toArray 32)
      have hS : FrAt b (w11.alloc (.cells (frsK.map fun s => s.fcells.toList).flatten.toArray 32)) := blk_below hHeld11 hb
      have HW12 := Aside0.mk (HW11.out.trans (hb.mono HW11.out.size))
      have HINT := Aside0.mk (HINT.out.below hb)
      have HFRS := Aside0.mk (frs_lit (l := frsK) hna)
      refine hK.out _ _ hS (fun hHeld12 => ?_)
      clear hK K hb hS hna hHeld11
      generalize w11.heap.size = fb12 at HFRS ⊢
      generalize w11.alloc (.cells (frsK.map fun s => s.fcells.toList).flatten.toArray 32) = w12 at HW12 hHeld12 HFRS HINT ⊢
      try simp only [Act.put, List.setIfInBounds_toArray, List.set_cons_zero, List.set_cons_succ]
      refine wpAnyH_ready (rs := [15]) (by kernel_rfl) (by simp) ?_
      refine AllReadyH.cons (o := { dst := some 58, op := Op.call { callee := Go.Callee.value (Operand.func 3), args := #[Operand.tmp 56, Operand.tmp 57], argTypes := #[22, 23] }, type := 4, pos := _, after := _, guard := some (6, true) }) rfl (fun K hK => ?_) AllReadyH.nil
      rw [if_pos (by rfl)]
      go_simp
      refine (show Calls Try.prog 3 #[.slice (some ⟨fb12, 0, none⟩) 6 6, .slice (some ⟨zb11, 0, none⟩) 4 4] w12 _ from once_any (some ⟨fb12, 0, none⟩) (some ⟨zb11, 0, none⟩) 6 4 frsK [0, 1, 0, 2] w12 HFRS.out HINT.out).mono ?_
      rintro e w13 ⟨rfl, hb⟩
      have hS : FrAt b w13 := blk_below hHeld12 hb
      have HW13 := Aside0.mk (HW12.out.trans (hb.mono HW12.out.size))
      refine hK.out _ _ hS (fun hHeld13 => ?_)
      clear hK K hb hS hHeld12
      try simp only [Act.put, List.setIfInBounds_toArray, List.set_cons_zero, List.set_cons_succ]
      refine wpAnyH_take (i := 16) (oi := { dst := some 59, op := Op.pick (Operand.tmp 49) (Operand.tmp 58) (Operand.const (Go.Value.bool false)), type := 4, pos := _, after := _, guard := none }) (v := ?_) rfl (by kernel_rfl) (by kernel_rfl) (by kernel_rfl) (fun _ _ _ h => h) (Or.inl ⟨rfl, ?_⟩) hHeld13 ?_
      rotate_left
      · intro w hSw
        obtain ⟨s0, s1, s2, s3, s4, s5, s6, s7, s8, s9, s10⟩ := FrAt.get hSw
        try dsimp only at hSw
        go_simp
        try exact rfl
      try simp only [Act.put, List.setIfInBounds_toArray, List.set_cons_zero, List.set_cons_succ]
      refine wpAnyH_take (i := 17) (oi := { dst := some 60, op := Op.move (Operand.tmp 59), type := 4, pos := _, after := _, guard := none }) (v := ?_) rfl (by kernel_rfl) (by kernel_rfl) (by kernel_rfl) (fun _ _ _ h => h) (Or.inl ⟨rfl, ?_⟩) hHeld13 ?_
      rotate_left
      · intro w hSw
        obtain ⟨s0, s1, s2, s3, s4, s5, s6, s7, s8, s9, s10⟩ := FrAt.get hSw
        try dsimp only at hSw
        go_simp
        try exact rfl
      try simp only [Act.put, List.setIfInBounds_toArray, List.set_cons_zero, List.set_cons_succ]
      refine wpAnyH_ready (rs := [18]) (by kernel_rfl) (by simp) ?_
      refine AllReadyH.cons (o := { dst := some 61, op := Op.call { callee := Go.Callee.value (Operand.func 13), args := #[], argTypes := #[] }, type := 4, pos := _, after := _, guard := some (17, true) }) rfl (fun K hK => ?_) AllReadyH.nil
      rw [if_pos (by rfl)]
      go_simp
      refine (works_any w13).mono ?_
      rintro e w113 ⟨rfl, hb⟩
      have hS : FrAt b w113 := blk_below hHeld13 hb
      have HW113 := Aside0.mk (HW13.out.trans (hb.mono HW13.out.size))
      refine hK.out _ _ hS (fun hHeld113 => ?_)
      clear hK K hb hS hHeld13
      try simp only [Act.put, List.setIfInBounds_toArray, List.set_cons_zero, List.set_cons_succ]
      refine wpAnyH_take (i := 19) (oi := { dst := some 62, op := Op.pick (Operand.tmp 60) (Operand.tmp 61) (Operand.const (Go.Value.bool false)), type := 4, pos := _, after := _, guard := none }) (v := ?_) rfl (by kernel_rfl) (by kernel_rfl) (by kernel_rfl) (fun _ _ _ h => h) (Or.inl ⟨rfl, ?_⟩) hHeld113 ?_
      rotate_left
      · intro w hSw
        obtain ⟨s0, s1, s2, s3, s4, s5, s6, s7, s8, s9, s10⟩ := FrAt.get hSw
        try dsimp only at hSw
        go_simp
        try exact rfl
      try simp only [Act.put, List.setIfInBounds_toArray, List.set_cons_zero, List.set_cons_succ]
      refine wpAnyH_take (i := 20) (oi := { dst := some 0, op := Op.assign (Operand.tmp 62), type := 4, pos := _, after := _, guard := none }) (v := ?_) rfl (by kernel_rfl) (by kernel_rfl) (by kernel_rfl) (fun _ _ _ h => h) (Or.inl ⟨rfl, ?_⟩) hHeld113 ?_
      rotate_left
      · intro w hSw
        obtain ⟨s0, s1, s2, s3, s4, s5, s6, s7, s8, s9, s10⟩ := FrAt.get hSw
        try dsimp only at hSw
        go_simp
        try exact rfl
      try simp only [Act.put, List.setIfInBounds_toArray, List.set_cons_zero, List.set_cons_succ]
      refine wpAnyH_done (by kernel_rfl) ?_ _
      go_wp2_with (fail)
      go_ret
      exact ⟨rfl, HW113.out⟩
  ·
    refine event_step (v := .slice (some ⟨w6.heap.size, 0, none⟩) 4 4) (w1 := w6.alloc (.cells (([0, 1, 0, 2] : List Int).map fun z => Value.int .i64 z).toArray 3)) (by rfl) ?hr14 ?_
    case hr14 => kernel_rfl
    have hb := below_alloc (Below.refl w6.heap.size w6) (.cells (([0, 1, 0, 2] : List Int).map fun z => Value.int .i64 z).toArray 3)
    have hna := heap_alloc_new w6 (.cells (([0, 1, 0, 2] : List Int).map fun z => Value.int .i64 z).toArray 3)
    have hS : FrAt b (w6.alloc (.cells (([0, 1, 0, 2] : List Int).map fun z => Value.int .i64 z).toArray 3)) := blk_below hHeld6 hb
    have HW14 := Aside0.mk (HW6.out.trans (hb.mono HW6.out.size))
    have HINT := Aside0.mk (ints_lit (l := [0, 1, 0, 2]) hna)
    refine hK.out _ _ hS (fun hHeld14 => ?_)
    clear hK K hb hS hna hHeld6
    generalize w6.heap.size = zb14 at HINT ⊢
    generalize w6.alloc (.cells (([0, 1, 0, 2] : List Int).map fun z => Value.int .i64 z).toArray 3) = w14 at HW14 hHeld14 HINT ⊢
    try simp only [Act.put, List.setIfInBounds_toArray, List.set_cons_zero, List.set_cons_succ]
    refine wpAnyH_ready (rs := [11]) (by kernel_rfl) (by simp) ?_
    refine AllReadyH.cons (o := { dst := some 54, op := Op.call { callee := Go.Callee.value (Operand.func 19), args := #[Operand.const (Go.Value.int Go.IntKind.u16 385), Operand.const (Go.Value.int Go.IntKind.u8 9)], argTypes := #[29, 5] }, type := 32, pos := _, after := _, guard := some (6, true) }) rfl (fun K hK => ?_) AllReadyH.nil
    rw [if_pos (by rfl)]
    go_simp
    refine (bf_any 385 9 w14).mono ?_
    rintro e w15 ⟨rfl, hb⟩
    have hS : FrAt b w15 := blk_below hHeld14 hb
    have HW15 := Aside0.mk (HW14.out.trans (hb.mono HW14.out.size))
    have HINT := Aside0.mk (HINT.out.below hb)
    refine hK.out _ _ hS (fun hHeld15 => ?_)
    clear hK K hb hS hHeld14
    try simp only [Act.put, List.setIfInBounds_toArray, List.set_cons_zero, List.set_cons_succ]
    refine wpAnyH_ready (rs := [13]) (by kernel_rfl) (by simp) ?_
    refine AllReadyH.cons (o := { dst := some 56, op := Op.buildSlice 22 6 #[(0, Operand.tmp 50), (1, Operand.tmp 51), (2, Operand.tmp 52), (3, Operand.tmp 53), (4, Operand.tmp 54), (5, Operand.tmp 55)], type := 22, pos := _, after := _, guard := some (6, true) }) rfl (fun K hK => ?_) AllReadyH.nil
    refine event_step (v := .slice (some ⟨w15.heap.size, 0, none⟩) 6 6) (w1 := w15.alloc (.cells (frsK.map fun s => s.fcells.toList).flatten.toArray 32)) (by rfl) ?hr16 ?_
    case hr16 => kernel_rfl
    have hb := below_alloc (Below.refl w15.heap.size w15) (.cells (frsK.map fun s => s.fcells.toList).flatten.toArray 32)
    have hna := heap_alloc_new w15 (.cells (frsK.map fun s => s.fcells.toList).flatten.toArray 32)
    have hS : FrAt b (w15.alloc (.cells (frsK.map fun s => s.fcells.toList).flatten.toArray 32)) := blk_below hHeld15 hb
    have HW16 := Aside0.mk (HW15.out.trans (hb.mono HW15.out.size))
    have HINT := Aside0.mk (HINT.out.below hb)
    have HFRS := Aside0.mk (frs_lit (l := frsK) hna)
    refine hK.out _ _ hS (fun hHeld16 => ?_)
    clear hK K hb hS hna hHeld15
    generalize w15.heap.size = fb16 at HFRS ⊢
    generalize w15.alloc (.cells (frsK.map fun s => s.fcells.toList).flatten.toArray 32) = w16 at HW16 hHeld16 HFRS HINT ⊢
    try simp only [Act.put, List.setIfInBounds_toArray, List.set_cons_zero, List.set_cons_succ]
    refine wpAnyH_ready (rs := [15]) (by kernel_rfl) (by simp) ?_
    refine AllReadyH.cons (o := { dst := some 58, op := Op.call { callee := Go.Callee.value (Operand.func 3), args := #[Operand.tmp 56, Operand.tmp 57], argTypes := #[22, 23] }, type := 4, pos := _, after := _, guard := some (6, true) }) rfl (fun K hK => ?_) AllReadyH.nil
    rw [if_pos (by rfl)]
    go_simp
    refine (show Calls Try.prog 3 #[.slice (some ⟨fb16, 0, none⟩) 6 6, .slice (some ⟨zb14, 0, none⟩) 4 4] w16 _ from once_any (some ⟨fb16, 0, none⟩) (some ⟨zb14, 0, none⟩) 6 4 frsK [0, 1, 0, 2] w16 HFRS.out HINT.out).mono ?_
    rintro e w17 ⟨rfl, hb⟩
    have hS : FrAt b w17 := blk_below hHeld16 hb
    have HW17 := Aside0.mk (HW16.out.trans (hb.mono HW16.out.size))
    refine hK.out _ _ hS (fun hHeld17 => ?_)
    clear hK K hb hS hHeld16
    try simp only [Act.put, List.setIfInBounds_toArray, List.set_cons_zero, List.set_cons_succ]
    refine wpAnyH_take (i := 16) (oi := { dst := some 59, op := Op.pick (Operand.tmp 49) (Operand.tmp 58) (Operand.const (Go.Value.bool false)), type := 4, pos := _, after := _, guard := none }) (v := ?_) rfl (by kernel_rfl) (by kernel_rfl) (by kernel_rfl) (fun _ _ _ h => h) (Or.inl ⟨rfl, ?_⟩) hHeld17 ?_
    rotate_left
    · intro w hSw
      obtain ⟨s0, s1, s2, s3, s4, s5, s6, s7, s8, s9, s10⟩ := FrAt.get hSw
      try dsimp only at hSw
      go_simp
      try exact rfl
    try simp only [Act.put, List.setIfInBounds_toArray, List.set_cons_zero, List.set_cons_succ]
    refine wpAnyH_take (i := 17) (oi := { dst := some 60, op := Op.move (Operand.tmp 59), type := 4, pos := _, after := _, guard := none }) (v := ?_) rfl (by kernel_rfl) (by kernel_rfl) (by kernel_rfl) (fun _ _ _ h => h) (Or.inl ⟨rfl, ?_⟩) hHeld17 ?_
    rotate_left
    · intro w hSw
      obtain ⟨s0, s1, s2, s3, s4, s5, s6, s7, s8, s9, s10⟩ := FrAt.get hSw
      try dsimp only at hSw
      go_simp
      try exact rfl
    try simp only [Act.put, List.setIfInBounds_toArray, List.set_cons_zero, List.set_cons_succ]
    refine wpAnyH_ready (rs := [18]) (by kernel_rfl) (by simp) ?_
    refine AllReadyH.cons (o := { dst := some 61, op := Op.call { callee := Go.Callee.value (Operand.func 13), args := #[], argTypes := #[] }, type := 4, pos := _, after := _, guard := some (17, true) }) rfl (fun K hK => ?_) AllReadyH.nil
    rw [if_pos (by rfl)]
    go_simp
    refine (works_any w17).mono ?_
    rintro e w117 ⟨rfl, hb⟩
    have hS : FrAt b w117 := blk_below hHeld17 hb
    have HW117 := Aside0.mk (HW17.out.trans (hb.mono HW17.out.size))
    refine hK.out _ _ hS (fun hHeld117 => ?_)
    clear hK K hb hS hHeld17
    try simp only [Act.put, List.setIfInBounds_toArray, List.set_cons_zero, List.set_cons_succ]
    refine wpAnyH_take (i := 19) (oi := { dst := some 62, op := Op.pick (Operand.tmp 60) (Operand.tmp 61) (Operand.const (Go.Value.bool false)), type := 4, pos := _, after := _, guard := none }) (v := ?_) rfl (by kernel_rfl) (by kernel_rfl) (by kernel_rfl) (fun _ _ _ h => h) (Or.inl ⟨rfl, ?_⟩) hHeld117 ?_
    rotate_left
    · intro w hSw
      obtain ⟨s0, s1, s2, s3, s4, s5, s6, s7, s8, s9, s10⟩ := FrAt.get hSw
      try dsimp only at hSw
      go_simp
      try exact rfl
    try simp only [Act.put, List.setIfInBounds_toArray, List.set_cons_zero, List.set_cons_succ]
    refine wpAnyH_take (i := 20) (oi := { dst := some 0, op := Op.assign (Operand.tmp 62), type := 4, pos := _, after := _, guard := none }) (v := ?_) rfl (by kernel_rfl) (by kernel_rfl) (by kernel_rfl) (fun _ _ _ h => h) (Or.inl ⟨rfl, ?_⟩) hHeld117 ?_
    rotate_left
    · intro w hSw
      obtain ⟨s0, s1, s2, s3, s4, s5, s6, s7, s8, s9, s10⟩ := FrAt.get hSw
      try dsimp only at hSw
      go_simp
      try exact rfl
    try simp only [Act.put, List.setIfInBounds_toArray, List.set_cons_zero, List.set_cons_succ]
    refine wpAnyH_done (by kernel_rfl) ?_ _
    go_wp2_with (fail)
    go_ret
    exact ⟨rfl, HW117.out⟩
end Go.Proofs.Ytnjmohdfnicpdaa.Bus
