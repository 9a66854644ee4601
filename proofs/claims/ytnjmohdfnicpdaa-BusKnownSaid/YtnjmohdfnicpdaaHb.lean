/- The bus in memory; ahead, Len, Less of it. -/
import Derived.Test.YtnjmohdfnicpdaaHa
import Derived.Test.YtnjmohdfnicpdaaRng
import Derived.Test.YtnjmohdfnicpdaaWInvWords
import Derived.Shelf.SlSortCmp.QuietGrown
import Derived.Shelf.SlicesQ.Reverse
import Derived.Shelf.SlicesQ.Load
namespace Go.Proofs.Ytnjmohdfnicpdaa.Bus
open Go.RowKit Go.Shelf Go.Lib Go.Sort Go.Proofs.Ytnjmohdfnicpdaa.Frm Go.Proofs.Ytnjmohdfnicpdaa.Rng Go.Proofs.YtnjmohdfnicpdaaW.PrintWords Go.Proofs.YtnjmohdfnicpdaaW.PrintMore Go.Proofs.YtnjmohdfnicpdaaW.PrintLast

/-- Frames that wait, as a kind of elements. -/
def kSn : Kd Sn where
  sz := 13
  E := []
  K _ x cs := cs = x.cells
  M _ _ _ x cs := cs = x.cells
  K_len := fun h => h ▸ rfl
  K_one := fun {_ x _} h => h ▸ x.cells_one
  K_below := fun _ h => h
  K_of_M := fun h => h
  M_mono := fun _ h => h
  M_bound := fun h => h
  M_move := fun _ h => h
  M_lower := fun _ h => h
theorem info_sn : (Try.prog.info? 35).map (fun i => (i.zero, i.size, i.bytes)) = some (some (.agg #[.int .i64 0, .int .u16 0, .int .i64 0, .int .u8 0, .int .u8 0, .int .u8 0, .int .u8 0, .int .u8 0, .int .u8 0, .int .u8 0, .int .u8 0, .bool false, .int .i64 0]), 13, 48) := by kernel_rfl
theorem mixed : Try.prog.follows .mixedOrders = true := by kernel_rfl
/-- A bus: its block, the row of what waits. -/
structure BusAt (w : World) (g : Nat) (v : Value) (l : List Sn) (N : Int) : Prop where
  blk : w.heap[g]? = some (.cells #[v, .int .i64 N] 62 (0, 0))
  row : Kd.R kSn 35 w 0 (fun k => k ≠ g) v l
theorem BusAt.lt {w : World} {g : Nat} {v : Value} {l : List Sn} {N : Int} (h : BusAt w g v l N) : g < w.heap.size := (Array.getElem?_eq_some_iff.1 h.blk).1
theorem BusAt.cell0 {w : World} {g : Nat} {v : Value} {l : List Sn} {N : Int} (h : BusAt w g v l N) : w.cell? ⟨g, 0, none⟩ = some v := blk_cell h.blk 0
theorem BusAt.cell1 {w : World} {g : Nat} {v : Value} {l : List Sn} {N : Int} (h : BusAt w g v l N) : w.cell? ⟨g, 1, none⟩ = some (.int .i64 N) := blk_cell h.blk 1
theorem BusAt.frozen {w : World} {g : Nat} {v : Value} {l : List Sn} {N : Int} (h : BusAt w g v l N) (j : Nat) : w.frozen? ⟨g, j, none⟩ = false := blk_frozen h.blk j
theorem BusAt.shape {w : World} {g : Nat} {v : Value} {l : List Sn} {N : Int} (h : BusAt w g v l N) : ∃ A c, v = .slice A l.length c ∧ l.length ≤ c := by
  obtain ⟨A, c, he, hl, _⟩ := Kd.R_reads h.row
  exact ⟨A, c, he, hl⟩
/-- The row, written out. -/
theorem BusAt.own {w : World} {g : Nat} {v : Value} {l : List Sn} {N : Int} (h : BusAt w g v l N) (hl : 0 < l.length) : ∃ gb c cur, v = .slice (some ⟨gb, 0, none⟩) l.length c ∧ gb ≠ g ∧ w.heap[gb]? = some (.cells cur 35 (0, 0)) ∧ l.length ≤ c ∧ cur.size = c * 13 ∧
    (∀ i x, l[i]? = some x → ∀ j u, x.cells[j]? = some u → w.cell? ⟨gb, i * 13 + j, none⟩ = some u) := by
  obtain ⟨hok, inner, ⟨_, ho⟩, hr⟩ := h.row
  rcases ho with ⟨_, h0⟩ | ⟨gb, c, cur, rfl, _, hb, hlc, _, hsz, htake⟩
  · omega
  · refine ⟨gb, c, cur, rfl, hok gb rfl, hb, hlc, hsz, fun i x hx j u hu => ?_⟩
    have h1 := hr.2 i x hx
    have h2 : (inner.drop (i * 13)).take 13 = x.cells := h1
    have hj : j < 13 := (List.getElem?_eq_some_iff.1 hu).1
    rw [← h2, List.getElem?_take, if_pos hj, List.getElem?_drop, ← htake] at hu
    rw [List.getElem?_take] at hu
    split at hu
    · rw [blk_cell hb (i * 13 + j), ← Array.getElem?_toList]
      exact hu
    · cases hu
theorem BusAt.fr {M : Nat → Prop} {w W : World} {g : Nat} {v : Value} {l : List Sn} {N : Int} (h : BusAt w g v l N) (hf : Fr M w W) (hg : ¬ M g) (hb : ∀ k, v.ownBlock = some k → ¬ M k) : BusAt W g v l N := by
  refine ⟨(hf.block g h.lt hg).trans h.blk, h.row.1, ?_⟩
  obtain ⟨inner, ho, hr⟩ := h.row.2
  refine ⟨inner, own_move ho (fun k hk => hf.block k (own_lt ho k hk) (hb k hk)), hr.imp_ (fun _ _ hp => hp)⟩
theorem fr_grow (M : Nat → Prop) (w : World) (n : Nat) (os : Array Obj) : Fr M w (grow (w.drewN n) os) := ⟨rfl, rfl, rfl, by rw [size_grow]; exact Nat.le_add_right _ _, fun k hk _ => by
  show (w.heap ++ os)[k]? = _
  rw [Array.getElem?_append_left hk]⟩
theorem fr_grow0 (M : Nat → Prop) (w : World) (os : Array Obj) : Fr M w (grow w os) := fr_grow M w 0 os
theorem BusAt.grown {w : World} {g : Nat} {v : Value} {l : List Sn} {N : Int} (h : BusAt w g v l N) (n : Nat) (os : Array Obj) : BusAt (grow (w.drewN n) os) g v l N := h.fr (fr_grow (fun _ => False) w n os) (fun h => h) (fun _ _ h => h)
/-- The thirteen cells of one, from a place on. -/
def CellsAt (W : World) (gb o : Nat) (s : Sn) : Prop := W.cell? ⟨gb, o, none⟩ = some (.int .i64 s.nd) ∧ W.cell? ⟨gb, o + 1, none⟩ = some (.int .u16 s.id) ∧ W.cell? ⟨gb, o + 2, none⟩ = some (.int .i64 s.len) ∧ W.cell? ⟨gb, o + 3, none⟩ = some (.int .u8 s.x0) ∧ W.cell? ⟨gb, o + 4, none⟩ = some (.int .u8 s.x1) ∧ W.cell? ⟨gb, o + 5, none⟩ = some (.int .u8 s.x2) ∧ W.cell? ⟨gb, o + 6, none⟩ = some (.int .u8 s.x3) ∧ W.cell? ⟨gb, o + 7, none⟩ = some (.int .u8 s.x4) ∧ W.cell? ⟨gb, o + 8, none⟩ = some (.int .u8 s.x5) ∧ W.cell? ⟨gb, o + 9, none⟩ = some (.int .u8 s.x6) ∧ W.cell? ⟨gb, o + 10, none⟩ = some (.int .u8 s.x7) ∧ W.cell? ⟨gb, o + 11, none⟩ = some (.bool s.rem) ∧ W.cell? ⟨gb, o + 12, none⟩ = some (.int .i64 s.num)
theorem BusAt.cells {w : World} {g gb c : Nat} {l : List Sn} {N : Int} {m : Nat} (h : BusAt w g (.slice (some ⟨gb, 0, none⟩) m c) l N) {i : Nat} (hi : i < l.length) : CellsAt w gb (i * 13) (nth l i) := by
  obtain ⟨gb', c', cur, he, _, _, _, _, hc⟩ := h.own (by omega)
  obtain rfl : gb = gb' := by
    simp at he
    exact he.1
  have hx := hc i _ (get_nth hi)
  exact ⟨hx 0 _ rfl, hx 1 _ rfl, hx 2 _ rfl, hx 3 _ rfl, hx 4 _ rfl, hx 5 _ rfl, hx 6 _ rfl, hx 7 _ rfl, hx 8 _ rfl, hx 9 _ rfl, hx 10 _ rfl, hx 11 _ rfl, hx 12 _ rfl⟩

theorem sn_at {W : World} {g : Nat} {t : TypeId} {s : Sn} (h : W.heap[g]? = some (.cells s.cells.toArray t (0, 0))) :
    W.cell? ⟨g, 0, none⟩ = some (.int .i64 s.nd) ∧ W.cell? ⟨g, 1, none⟩ = some (.int .u16 s.id) ∧ W.cell? ⟨g, 2, none⟩ = some (.int .i64 s.len) ∧ W.cell? ⟨g, 3, none⟩ = some (.int .u8 s.x0) ∧ W.cell? ⟨g, 4, none⟩ = some (.int .u8 s.x1) ∧ W.cell? ⟨g, 5, none⟩ = some (.int .u8 s.x2) ∧ W.cell? ⟨g, 6, none⟩ = some (.int .u8 s.x3) ∧ W.cell? ⟨g, 7, none⟩ = some (.int .u8 s.x4) ∧ W.cell? ⟨g, 8, none⟩ = some (.int .u8 s.x5) ∧ W.cell? ⟨g, 9, none⟩ = some (.int .u8 s.x6) ∧ W.cell? ⟨g, 10, none⟩ = some (.int .u8 s.x7) ∧ W.cell? ⟨g, 11, none⟩ = some (.bool s.rem) ∧ W.cell? ⟨g, 12, none⟩ = some (.int .i64 s.num) ∧ ∀ j, W.frozen? ⟨g, j, none⟩ = false :=
  ⟨blk_cell h 0, blk_cell h 1, blk_cell h 2, blk_cell h 3, blk_cell h 4, blk_cell h 5, blk_cell h 6, blk_cell h 7, blk_cell h 8, blk_cell h 9, blk_cell h 10, blk_cell h 11, blk_cell h 12, fun j => blk_frozen h j⟩
theorem before_sn (s t : Sn) (w : World) : Calls Try.prog 38 #[.agg #[.int .u16 s.id, .int .i64 s.len, .int .u8 s.x0, .int .u8 s.x1, .int .u8 s.x2, .int .u8 s.x3, .int .u8 s.x4, .int .u8 s.x5, .int .u8 s.x6, .int .u8 s.x7, .bool s.rem], .agg #[.int .u16 t.id, .int .i64 t.len, .int .u8 t.x0, .int .u8 t.x1, .int .u8 t.x2, .int .u8 t.x3, .int .u8 t.x4, .int .u8 t.x5, .int .u8 t.x6, .int .u8 t.x7, .bool t.rem]] w fun e w' =>
      e = .returned (.bool (bef s.id s.rem t.id t.rem)) ∧ ∃ os, w' = grow w os := fbefore_any s.id s.len s.x0 s.x1 s.x2 s.x3 s.x4 s.x5 s.x6 s.x7 s.rem t.id t.len t.x0 t.x1 t.x2 t.x3 t.x4 t.x5 t.x6 t.x7 t.rem w
theorem heap_grow {w : World} {g : Nat} {o : Obj} (h : w.heap[g]? = some o) (os : Array Obj) : (grow w os).heap[g]? = some o := by
  show (w.heap ++ os)[g]? = _
  rw [Array.getElem?_append_left (Array.getElem?_eq_some_iff.1 h).1, h]
set_option maxHeartbeats 2000000 in
set_option maxRecDepth 100000 in
theorem ahead_any (s t : Sn) (w : World) :
    Calls Try.prog 27 #[.agg s.cells.toArray, .agg t.cells.toArray] w fun e w' => e = .returned (.bool (aheadC s t)) ∧ ∃ os, w' = grow w os := by
  obtain ⟨q1, h1⟩ : ∃ q, bef s.id s.rem t.id t.rem = q := ⟨_, rfl⟩
  obtain ⟨q2, h2⟩ : ∃ q, bef t.id t.rem s.id s.rem = q := ⟨_, rfl⟩
  have b1 := before_sn s t
  have b2 := before_sn t s
  rw [h1] at b1
  rw [h2] at b2
  have HA := Aside0.mk (show aheadC s t = (q1 || (!q2 && decide (s.num < t.num))) by unfold aheadC; rw [h1, h2])
  obtain ⟨q, hq⟩ : ∃ q, aheadC s t = q := ⟨_, rfl⟩
  rw [hq] at HA ⊢
  have B1 := Aside0.mk b1
  have B2 := Aside0.mk b2
  clear h1 h2 b1 b2 hq
  have hb0 := two_new1 w (.cells s.cells.toArray 35) (.cells t.cells.toArray 35) 0
  have hb1 := two_new2 w (.cells s.cells.toArray 35) (.cells t.cells.toArray 35) 0
  have hbw : ∃ os, (w.alloc (.cells s.cells.toArray 35)).alloc (.cells t.cells.toArray 35) = grow w os := two_grow w _ _
  change ((w.alloc (Obj.cells s.cells.toArray 35)).alloc (Obj.cells t.cells.toArray 35)).heap[w.heap.size]? = _ at hb0
  change ((w.alloc (Obj.cells s.cells.toArray 35)).alloc (Obj.cells t.cells.toArray 35)).heap[w.heap.size + 1]? = _ at hb1
  have HB0 := Aside0.mk hb0
  have HB1 := Aside0.mk hb1
  have HBW := Aside0.mk hbw
  clear hb0 hb1 hbw
  show Calls Try.prog 27 #[.agg #[.int .i64 s.nd, .int .u16 s.id, .int .i64 s.len, .int .u8 s.x0, .int .u8 s.x1, .int .u8 s.x2, .int .u8 s.x3, .int .u8 s.x4, .int .u8 s.x5, .int .u8 s.x6, .int .u8 s.x7, .bool s.rem, .int .i64 s.num], .agg #[.int .i64 t.nd, .int .u16 t.id, .int .i64 t.len, .int .u8 t.x0, .int .u8 t.x1, .int .u8 t.x2, .int .u8 t.x3, .int .u8 t.x4, .int .u8 t.x5, .int .u8 t.x6, .int .u8 t.x7, .bool t.rem, .int .i64 t.num]] w _
  go_enter Try.func27, Try.ntmps27
  go_wp2_with (fail)
  refine (B1.out _).mono ?_
  rintro e W1 ⟨rfl, hg⟩
  have hc : W1.heap[w.heap.size]? = some (.cells s.cells.toArray 35 (0, 0)) ∧ W1.heap[w.heap.size + 1]? = some (.cells t.cells.toArray 35 (0, 0)) ∧ ∃ os', W1 = grow w os' := by
    obtain ⟨os, rfl⟩ := hg
    obtain ⟨o, ho⟩ := HBW.out
    exact ⟨heap_grow HB0.out os, heap_grow HB1.out os, _, (congrArg (fun x => grow x os) ho).trans (grow_grow _ _ _)⟩
  clear hg
  obtain ⟨hc0, hc1, hcw⟩ := hc
  obtain ⟨f0, f1, f2, f3, f4, f5, f6, f7, f8, f9, f10, f11, f12, f13⟩ := sn_at hc0
  obtain ⟨g0, g1, g2, g3, g4, g5, g6, g7, g8, g9, g10, g11, g12, g13⟩ := sn_at hc1
  have HC0 := Aside0.mk hc0
  have HC1 := Aside0.mk hc1
  have HCW := Aside0.mk hcw
  clear hc0 hc1 hcw HB0 HB1 HBW
  rcases q1 with _ | _
  · go_wp2_with (fail)
    refine (B2.out _).mono ?_
    rintro e W2 ⟨rfl, hg⟩
    have hc : W2.heap[w.heap.size]? = some (.cells s.cells.toArray 35 (0, 0)) ∧ W2.heap[w.heap.size + 1]? = some (.cells t.cells.toArray 35 (0, 0)) ∧ ∃ os', W2 = grow w os' := by
      obtain ⟨os, rfl⟩ := hg
      obtain ⟨o, ho⟩ := HCW.out
      exact ⟨heap_grow HC0.out os, heap_grow HC1.out os, _, (congrArg (fun x => grow x os) ho).trans (grow_grow _ _ _)⟩
    clear hg f0 f1 f2 f3 f4 f5 f6 f7 f8 f9 f10 f11 f12 f13 g0 g1 g2 g3 g4 g5 g6 g7 g8 g9 g10 g11 g12 g13
    obtain ⟨hc0, hc1, hcw⟩ := hc
    obtain ⟨_, _, _, _, _, _, _, _, _, _, _, _, f12, _⟩ := sn_at hc0
    obtain ⟨_, _, _, _, _, _, _, _, _, _, _, _, g12, _⟩ := sn_at hc1
    have HDW := Aside0.mk hcw
    clear hc0 hc1 hcw
    rcases q2 with _ | _
    · by_cases hn : s.num < t.num
      all_goals
        have HQ := Aside0.mk (show q = decide (s.num < t.num) by rw [HA.out]; rfl)
        go_wp2_with (fail)
        go_ret
        refine ⟨?_, HDW.out⟩
        rw [HQ.out]
        simp [hn]
    · go_wp2_with (fail)
      go_ret
      exact ⟨by rw [HA.out]; rfl, HDW.out⟩
  · go_wp2_with (fail)
    go_ret
    exact ⟨by rw [HA.out]; rfl, HCW.out⟩
set_option maxHeartbeats 1000000 in
set_option maxRecDepth 100000 in
theorem len_any (w : World) (g : Nat) (v : Value) (l : List Sn) (N : Int) (h : BusAt w g v l N) :
    Calls Try.prog 21 #[.pointer (some ⟨g, 0, none⟩)] w fun e w' => e = .returned (.int .i64 l.length) ∧ w' = w := by
  obtain ⟨A, c, rfl, hl⟩ := h.shape
  have hc := h.cell0
  clear h
  go_enter Try.func21, Try.ntmps21
  go_wp2
  go_ret
  exact ⟨rfl, rfl⟩
set_option maxHeartbeats 2000000 in
set_option maxRecDepth 100000 in
theorem less_any (w : World) (g : Nat) (v : Value) (l : List Sn) (N : Int) (i j : Nat) (h : BusAt w g v l N) (hi : i < l.length) (hj : j < l.length) (hl : l.length ≤ 100000) :
    Calls Try.prog 75 #[.pointer (some ⟨g, 0, none⟩), .int .i64 i, .int .i64 j] w fun e w' => e = .returned (.bool (aheadC (nth l i) (nth l j))) ∧ ∃ n os, w' = grow (w.drewN n) os := by
  have mixed := mixed
  obtain ⟨gb, c, cur, rfl, _, _, hlc, _⟩ := h.own (by omega)
  have hc : ∀ n os, (grow (w.drewN n) os).cell? ⟨g, 0, none⟩ = some (.slice (some ⟨gb, 0, none⟩) l.length c) := fun n os => (h.grown n os).cell0
  have li : ∀ n os, CellsAt (grow (w.drewN n) os) gb (i * 13) (nth l i) := fun n os => (h.grown n os).cells hi
  have lj : ∀ n os, CellsAt (grow (w.drewN n) os) gb (j * 13) (nth l j) := fun n os => (h.grown n os).cells hj
  have hA : ∀ n os, Calls Try.prog 27 #[.agg #[.int .i64 (nth l i).nd, .int .u16 (nth l i).id, .int .i64 (nth l i).len, .int .u8 (nth l i).x0, .int .u8 (nth l i).x1, .int .u8 (nth l i).x2, .int .u8 (nth l i).x3, .int .u8 (nth l i).x4, .int .u8 (nth l i).x5, .int .u8 (nth l i).x6, .int .u8 (nth l i).x7, .bool (nth l i).rem, .int .i64 (nth l i).num], .agg #[.int .i64 (nth l j).nd, .int .u16 (nth l j).id, .int .i64 (nth l j).len, .int .u8 (nth l j).x0, .int .u8 (nth l j).x1, .int .u8 (nth l j).x2, .int .u8 (nth l j).x3, .int .u8 (nth l j).x4, .int .u8 (nth l j).x5, .int .u8 (nth l j).x6, .int .u8 (nth l j).x7, .bool (nth l j).rem, .int .i64 (nth l j).num]] (grow (w.drewN n) os) fun e w' => e = .returned (.bool (aheadC (nth l i) (nth l j))) ∧ ∃ q os', w' = grow ((grow (w.drewN n) os).drewN q) os' := fun n os =>
    (ahead_any _ _ _).mono fun e w' ⟨he, os', hw⟩ => ⟨he, 0, os', hw⟩
  generalize aheadC (nth l i) (nth l j) = q at hA ⊢
  generalize nth l i = si at li hA
  generalize nth l j = sj at lj hA
  obtain ⟨a0, a1, a2, a3, a4, a5, a6, a7, a8, a9, a10, a11, a12⟩ : (∀ n os, (grow (w.drewN n) os).cell? ⟨gb, i * 13, none⟩ = some (.int .i64 si.nd)) ∧ (∀ n os, (grow (w.drewN n) os).cell? ⟨gb, i * 13 + 1, none⟩ = some (.int .u16 si.id)) ∧ (∀ n os, (grow (w.drewN n) os).cell? ⟨gb, i * 13 + 2, none⟩ = some (.int .i64 si.len)) ∧ (∀ n os, (grow (w.drewN n) os).cell? ⟨gb, i * 13 + 3, none⟩ = some (.int .u8 si.x0)) ∧ (∀ n os, (grow (w.drewN n) os).cell? ⟨gb, i * 13 + 4, none⟩ = some (.int .u8 si.x1)) ∧ (∀ n os, (grow (w.drewN n) os).cell? ⟨gb, i * 13 + 5, none⟩ = some (.int .u8 si.x2)) ∧ (∀ n os, (grow (w.drewN n) os).cell? ⟨gb, i * 13 + 6, none⟩ = some (.int .u8 si.x3)) ∧ (∀ n os, (grow (w.drewN n) os).cell? ⟨gb, i * 13 + 7, none⟩ = some (.int .u8 si.x4)) ∧ (∀ n os, (grow (w.drewN n) os).cell? ⟨gb, i * 13 + 8, none⟩ = some (.int .u8 si.x5)) ∧ (∀ n os, (grow (w.drewN n) os).cell? ⟨gb, i * 13 + 9, none⟩ = some (.int .u8 si.x6)) ∧ (∀ n os, (grow (w.drewN n) os).cell? ⟨gb, i * 13 + 10, none⟩ = some (.int .u8 si.x7)) ∧ (∀ n os, (grow (w.drewN n) os).cell? ⟨gb, i * 13 + 11, none⟩ = some (.bool si.rem)) ∧ (∀ n os, (grow (w.drewN n) os).cell? ⟨gb, i * 13 + 12, none⟩ = some (.int .i64 si.num)) := ⟨fun n os => (li n os).1, fun n os => (li n os).2.1, fun n os => (li n os).2.2.1, fun n os => (li n os).2.2.2.1, fun n os => (li n os).2.2.2.2.1, fun n os => (li n os).2.2.2.2.2.1, fun n os => (li n os).2.2.2.2.2.2.1, fun n os => (li n os).2.2.2.2.2.2.2.1, fun n os => (li n os).2.2.2.2.2.2.2.2.1, fun n os => (li n os).2.2.2.2.2.2.2.2.2.1, fun n os => (li n os).2.2.2.2.2.2.2.2.2.2.1, fun n os => (li n os).2.2.2.2.2.2.2.2.2.2.2.1, fun n os => (li n os).2.2.2.2.2.2.2.2.2.2.2.2⟩
  obtain ⟨b0, b1, b2, b3, b4, b5, b6, b7, b8, b9, b10, b11, b12⟩ : (∀ n os, (grow (w.drewN n) os).cell? ⟨gb, j * 13, none⟩ = some (.int .i64 sj.nd)) ∧ (∀ n os, (grow (w.drewN n) os).cell? ⟨gb, j * 13 + 1, none⟩ = some (.int .u16 sj.id)) ∧ (∀ n os, (grow (w.drewN n) os).cell? ⟨gb, j * 13 + 2, none⟩ = some (.int .i64 sj.len)) ∧ (∀ n os, (grow (w.drewN n) os).cell? ⟨gb, j * 13 + 3, none⟩ = some (.int .u8 sj.x0)) ∧ (∀ n os, (grow (w.drewN n) os).cell? ⟨gb, j * 13 + 4, none⟩ = some (.int .u8 sj.x1)) ∧ (∀ n os, (grow (w.drewN n) os).cell? ⟨gb, j * 13 + 5, none⟩ = some (.int .u8 sj.x2)) ∧ (∀ n os, (grow (w.drewN n) os).cell? ⟨gb, j * 13 + 6, none⟩ = some (.int .u8 sj.x3)) ∧ (∀ n os, (grow (w.drewN n) os).cell? ⟨gb, j * 13 + 7, none⟩ = some (.int .u8 sj.x4)) ∧ (∀ n os, (grow (w.drewN n) os).cell? ⟨gb, j * 13 + 8, none⟩ = some (.int .u8 sj.x5)) ∧ (∀ n os, (grow (w.drewN n) os).cell? ⟨gb, j * 13 + 9, none⟩ = some (.int .u8 sj.x6)) ∧ (∀ n os, (grow (w.drewN n) os).cell? ⟨gb, j * 13 + 10, none⟩ = some (.int .u8 sj.x7)) ∧ (∀ n os, (grow (w.drewN n) os).cell? ⟨gb, j * 13 + 11, none⟩ = some (.bool sj.rem)) ∧ (∀ n os, (grow (w.drewN n) os).cell? ⟨gb, j * 13 + 12, none⟩ = some (.int .i64 sj.num)) := ⟨fun n os => (lj n os).1, fun n os => (lj n os).2.1, fun n os => (lj n os).2.2.1, fun n os => (lj n os).2.2.2.1, fun n os => (lj n os).2.2.2.2.1, fun n os => (lj n os).2.2.2.2.2.1, fun n os => (lj n os).2.2.2.2.2.2.1, fun n os => (lj n os).2.2.2.2.2.2.2.1, fun n os => (lj n os).2.2.2.2.2.2.2.2.1, fun n os => (lj n os).2.2.2.2.2.2.2.2.2.1, fun n os => (lj n os).2.2.2.2.2.2.2.2.2.2.1, fun n os => (lj n os).2.2.2.2.2.2.2.2.2.2.2.1, fun n os => (lj n os).2.2.2.2.2.2.2.2.2.2.2.2⟩
  clear li lj
  have ei : ((i : Int)).toNat = i := by omega
  have ej : ((j : Int)).toNat = j := by omega
  have bi : (i : Int) < (l.length : Int) := by omega
  have bj : (j : Int) < (l.length : Int) := by omega
  clear h
  go_enter Try.func75, Try.ntmps75
  go_wp2_with (fail)
  go_quiet_grown (refine Calls.grown_of (hA _ _))
  go_wp2_with (fail)
  go_ret
  exact ⟨rfl, _, _, rfl⟩
end Go.Proofs.Ytnjmohdfnicpdaa.Bus
