/- The document's Send (printed by gen_hv.py). -/
import Derived.Test.YtnjmohdfnicpdaaHu
namespace Go.Proofs.Ytnjmohdfnicpdaa.Bus
open Go.RowKit Go.Shelf Go.Lib Go.Sort Go.Proofs.Ytnjmohdfnicpdaa.Frm Go.Proofs.Ytnjmohdfnicpdaa.Rng Go.Proofs.YtnjmohdfnicpdaaW.PrintWords Go.Proofs.YtnjmohdfnicpdaaW.PrintMore Go.Proofs.YtnjmohdfnicpdaaW.PrintLast

/-- How many go ahead of it. -/
def atL (l : List Sn) (x : Sn) : Nat := (l.takeWhile fun y => aheadC y x).length
/-- It takes its place. -/
def insL (x : Sn) (l : List Sn) : List Sn := l.take (atL l x) ++ [x] ++ l.drop (atL l x)
theorem atL_le (l : List Sn) (x : Sn) : atL l x ≤ l.length := by
  unfold atL
  have := List.takeWhile_prefix (p := fun y => aheadC y x) (l := l)
  exact this.length_le
theorem atL_step {l : List Sn} {x : Sn} : ∀ {k : Nat}, (∀ j, j < k → aheadC (nth l j) x = true) → k < l.length → aheadC (nth l k) x = false → atL l x = k := by
  induction l with
  | nil => intro k _ h; simp at h
  | cons y r ih =>
    intro k h1 h2 h3
    rcases k with _ | k
    · have h4 : aheadC y x = false := h3
      simp [atL, h4]
    · have h4 : aheadC y x = true := h1 0 (by omega)
      have h5 := ih (k := k) (fun j hj => h1 (j + 1) (by omega)) (by simpa using h2) h3
      simp only [atL, List.takeWhile_cons, h4, if_true, List.length_cons] at h5 ⊢
      omega
theorem atL_all {l : List Sn} {x : Sn} (h : ∀ j, j < l.length → aheadC (nth l j) x = true) : atL l x = l.length := by
  have : l.takeWhile (fun y => aheadC y x) = l := by
    induction l with
    | nil => rfl
    | cons y r ih =>
      have h4 : aheadC y x = true := h 0 (by simp)
      rw [List.takeWhile_cons, h4, if_pos rfl, ih (fun j hj => h (j + 1) (by simpa using hj))]
  rw [atL, this]
theorem below_grow0 (w : World) (n : Nat) (os : Array Obj) : Below w.heap.size w (grow (w.drewN n) os) := ⟨rfl, rfl, rfl, by rw [size_grow]; exact Nat.le_add_right _ _, fun k hk => by
  show (w.heap ++ os)[k]? = _
  rw [Array.getElem?_append_left hk]⟩
theorem rows_zero (Rr : Sn → List Value → Prop) (w : World) (A : Option Addr) (m : Nat) (l : List Sn) (hl : l = []) (hm : m = 0) : ReadsRow Rr 13 w A m l := by
  subst hl
  subst hm
  exact ⟨rfl, Nat.zero_le _, fun h => absurd h (Nat.lt_irrefl 0)⟩
set_option maxHeartbeats 8000000 in
set_option maxRecDepth 100000 in
/-- Region 9 and its loop, from the row's head on: see rsend_any. -/
theorem rsend_any (w : World) (gm : Nat) (A : Option Addr) (c : Nat) (l : List Sn) (x : Sn) (r : Int) (hr : sendC x l.length = r) (h : RefAt w gm A c l x.num) (hl : l.length ≤ 100000) (hN : 0 ≤ x.num ∧ x.num < 1000000000) :
    Calls Try.prog 30 #[.pointer (some ⟨gm, 0, none⟩), .int .i64 x.nd, .agg #[.int .u16 x.id, .int .i64 x.len, .int .u8 x.x0, .int .u8 x.x1, .int .u8 x.x2, .int .u8 x.x3, .int .u8 x.x4, .int .u8 x.x5, .int .u8 x.x6, .int .u8 x.x7, .bool x.rem]] w fun e w' => e = .returned (.int .i64 r) ∧ ∃ A' c' l' N', RefAt w' gm A' c' l' N' ∧ ((r = 0 ∧ l' = insL x l ∧ N' = x.num + 1 ∧ ∀ ad, A' = some ad → w.heap.size ≤ ad.block) ∨ (r ≠ 0 ∧ l' = l ∧ N' = x.num)) ∧ RTurn gm A A' w w' := by
  obtain ⟨hN0, hN1⟩ := hN
  have wr : IntKind.i64.wrap (x.num + 1) = x.num + 1 := by rw [IntKind.wrap_i64]; omega
  have mixed := mixed
  have HB := Aside0.mk h
  unfold sendC at hr
  have hbx := heap_alloc_new w (.cells #[.int .u16 x.id, .int .i64 x.len, .int .u8 x.x0, .int .u8 x.x1, .int .u8 x.x2, .int .u8 x.x3, .int .u8 x.x4, .int .u8 x.x5, .int .u8 x.x6, .int .u8 x.x7, .bool x.rem] 32)
  have hbw := below_alloc (Below.refl w.heap.size w) (.cells #[.int .u16 x.id, .int .i64 x.len, .int .u8 x.x0, .int .u8 x.x1, .int .u8 x.x2, .int .u8 x.x3, .int .u8 x.x4, .int .u8 x.x5, .int .u8 x.x6, .int .u8 x.x7, .bool x.rem] 32)
  have HL := Aside0.mk h.lt
  have HBX := Aside0.mk hbx
  have HBW := Aside0.mk hbw
  clear h hbx hbw
  by_cases hn : x.nd < 0
  · rw [if_pos hn] at hr
    subst hr
    go_enter Try.func30, Try.ntmps30
    go_wp2_with (fail)
    go_ret
    exact ⟨rfl, A, c, l, x.num, HB.out.below HBW.out, .inr ⟨by decide, rfl, rfl⟩, RTurn.below HBW.out⟩
  · rw [if_neg hn] at hr
    go_enter Try.func30, Try.ntmps30
    obtain ⟨f0, f1, f2, f3, f4, f5, f6, f7, f8, f9, f10, f11⟩ := fm_at (show (w.alloc (.cells #[.int .u16 x.id, .int .i64 x.len, .int .u8 x.x0, .int .u8 x.x1, .int .u8 x.x2, .int .u8 x.x3, .int .u8 x.x4, .int .u8 x.x5, .int .u8 x.x6, .int .u8 x.x7, .bool x.rem] 32)).heap[w.heap.size]? = some (.cells (Fm.cells ⟨x.id, x.len, [x.x0, x.x1, x.x2, x.x3, x.x4, x.x5, x.x6, x.x7], x.rem⟩) 32 (0, 0)) from HBX.out)
    go_wp2_with (fail)
    refine (rright_any x.id x.len x.x0 x.x1 x.x2 x.x3 x.x4 x.x5 x.x6 x.x7 x.rem _).mono ?_
    rintro e w1 ⟨hq, hb1⟩
    clear f0 f1 f2 f3 f4 f5 f6 f7 f8 f9 f10 f11
    have hbx1 := blk_below HBX.out hb1
    have hb01 : Below w.heap.size w w1 := HBW.out.trans (hb1.mono HBW.out.size)
    have HBX1 := Aside0.mk hbx1
    have HB01 := Aside0.mk hb01
    have hr1 := HB.out.below hb01
    have z0 := hr1.cell0
    have HB1 := Aside0.mk hr1
    clear hbx1 hb01 hb1
    rcases hq with ⟨rfl, hq⟩ | ⟨rfl, hq⟩
    · rw [if_neg (show ¬ ¬ Rt x.fm from fun hh => hh hq)] at hr
      clear hq
      by_cases h512 : 512 ≤ l.length
      · rw [if_pos h512] at hr
        subst hr
        go_wp2_with (fail)
        go_ret
        exact ⟨rfl, A, c, l, x.num, HB1.out, .inr ⟨by decide, rfl, rfl⟩, RTurn.below HB01.out⟩
      · rw [if_neg h512] at hr
        subst hr
        go_wp2_with (fail)
        have u1 : ∀ Z, Below w1.heap.size w1 Z → Z.cell? ⟨gm, 1, none⟩ = some (.int .i64 x.num) := fun Z hZ => (hr1.below hZ).cell1
        have HXX := fun Z (hZ : Below w1.heap.size w1 Z) => fm_at (show Z.heap[w.heap.size]? = some (.cells (Fm.cells ⟨x.id, x.len, [x.x0, x.x1, x.x2, x.x3, x.x4, x.x5, x.x6, x.x7], x.rem⟩) 32 (0, 0)) from blk_below HBX1.out hZ)
        have f0 := fun Z hZ => (HXX Z hZ).1
        have f1 := fun Z hZ => (HXX Z hZ).2.1
        have f2 := fun Z hZ => (HXX Z hZ).2.2.1
        have f3 := fun Z hZ => (HXX Z hZ).2.2.2.1
        have f4 := fun Z hZ => (HXX Z hZ).2.2.2.2.1
        have f5 := fun Z hZ => (HXX Z hZ).2.2.2.2.2.1
        have f6 := fun Z hZ => (HXX Z hZ).2.2.2.2.2.2.1
        have f7 := fun Z hZ => (HXX Z hZ).2.2.2.2.2.2.2.1
        have f8 := fun Z hZ => (HXX Z hZ).2.2.2.2.2.2.2.2.1
        have f9 := fun Z hZ => (HXX Z hZ).2.2.2.2.2.2.2.2.2.1
        have f10 := fun Z hZ => (HXX Z hZ).2.2.2.2.2.2.2.2.2.2.1
        have one1 := Aside0.mk x.cells_one
        change Aside0 (∀ v ∈ ([.int .i64 x.nd, .int .u16 x.id, .int .i64 x.len, .int .u8 x.x0, .int .u8 x.x1, .int .u8 x.x2, .int .u8 x.x3, .int .u8 x.x4, .int .u8 x.x5, .int .u8 x.x6, .int .u8 x.x7, .bool x.rem, .int .i64 x.num] : List Value), v.oneCell' = true) at one1
        have hBD : Below w1.heap.size w1 w1.drew := below_drew (Below.refl _ _)
        clear hr1 HXX z0
        refine wp_region_held_drew (S := fun Z => Below w1.heap.size w1 Z) (by kernel_rfl) hBD (fun hHeld => ?_)
        clear hBD
        generalize w1.drew = wd at hHeld ⊢
        refine wpAnyH_take (i := 0) (oi := { dst := some 21, op := Op.move (Operand.tmp 1), type := 3, pos := _, after := _, guard := none }) (v := ?_) rfl (by kernel_rfl) (by kernel_rfl) (by kernel_rfl) (fun _ _ _ h => h) (Or.inl ⟨rfl, ?_⟩) hHeld ?_
        rotate_left
        · intro w hSw
          try dsimp only at hSw
          go_simp
          try exact rfl
        try simp only [Act.put, List.setIfInBounds_toArray, List.set_cons_zero, List.set_cons_succ]
        refine wpAnyH_take (i := 1) (oi := { dst := some 22, op := Op.load 32 (Operand.tmp 5), type := 32, pos := _, after := _, guard := none }) (v := ?_) rfl (by kernel_rfl) (by kernel_rfl) (by kernel_rfl) (fun _ _ _ h => h) (Or.inl ⟨rfl, ?_⟩) hHeld ?_
        rotate_left
        · intro w hSw
          try dsimp only at hSw
          go_simp
          try exact rfl
        try simp only [Act.put, List.setIfInBounds_toArray, List.set_cons_zero, List.set_cons_succ]
        refine wpAnyH_take (i := 2) (oi := { dst := some 23, op := Op.move (Operand.tmp 0), type := 46, pos := _, after := _, guard := none }) (v := ?_) rfl (by kernel_rfl) (by kernel_rfl) (by kernel_rfl) (fun _ _ _ h => h) (Or.inl ⟨rfl, ?_⟩) hHeld ?_
        rotate_left
        · intro w hSw
          try dsimp only at hSw
          go_simp
          try exact rfl
        try simp only [Act.put, List.setIfInBounds_toArray, List.set_cons_zero, List.set_cons_succ]
        refine wpAnyH_take (i := 3) (oi := { dst := some 24, op := Op.nilCheck (Operand.tmp 23), type := 0, pos := _, after := _, guard := none }) (v := ?_) rfl (by kernel_rfl) (by kernel_rfl) (by kernel_rfl) (fun _ _ _ h => h) (Or.inl ⟨rfl, ?_⟩) hHeld ?_
        rotate_left
        · intro w hSw
          try dsimp only at hSw
          go_simp
          try exact rfl
        try simp only [Act.put, List.setIfInBounds_toArray, List.set_cons_zero, List.set_cons_succ]
        refine wpAnyH_take (i := 4) (oi := { dst := some 25, op := Op.fieldAddr 49 (Operand.tmp 24) 1, type := 0, pos := _, after := _, guard := none }) (v := ?_) rfl (by kernel_rfl) (by kernel_rfl) (by kernel_rfl) (fun _ _ _ h => h) (Or.inl ⟨rfl, ?_⟩) hHeld ?_
        rotate_left
        · intro w hSw
          try dsimp only at hSw
          go_simp
          try exact rfl
        try simp only [Act.put, List.setIfInBounds_toArray, List.set_cons_zero, List.set_cons_succ]
        refine wpAnyH_take (i := 5) (oi := { dst := some 26, op := Op.load 2 (Operand.tmp 25), type := 2, pos := _, after := _, guard := none }) (v := ?_) rfl (by kernel_rfl) (by kernel_rfl) (by kernel_rfl) (fun _ _ _ h => h) (Or.inl ⟨rfl, ?_⟩) hHeld ?_
        rotate_left
        · intro w hSw
          try dsimp only at hSw
          go_simp
          try exact rfl
        try simp only [Act.put, List.setIfInBounds_toArray, List.set_cons_zero, List.set_cons_succ]
        refine wpAnyH_take (i := 6) (oi := { dst := some 27, op := Op.build 72 #[(0, Operand.tmp 21), (1, Operand.tmp 22), (2, Operand.tmp 26)], type := 72, pos := _, after := _, guard := none }) (v := ?_) rfl (by kernel_rfl) (by kernel_rfl) (by kernel_rfl) (fun _ _ _ h => h) (Or.inl ⟨rfl, ?_⟩) hHeld ?_
        rotate_left
        · intro w hSw
          try dsimp only at hSw
          go_simp
          try exact rfl
        try simp only [Act.put, List.setIfInBounds_toArray, List.set_cons_zero, List.set_cons_succ]
        refine wpAnyH_ready (rs := [7]) (by kernel_rfl) (by simp) ?_
        refine AllReadyH.cons (o := { dst := some 7, op := Op.alloc 72, type := 0, pos := _, after := _, guard := none }) rfl (fun K hK => ?_) AllReadyH.nil
        rw [if_pos (wanted_none rfl)]
        go_simp
        have hb2 : Below w1.heap.size w1 (wd.alloc (.cells #[.int .i64 0, .int .u16 0, .int .i64 0, .int .u8 0, .int .u8 0, .int .u8 0, .int .u8 0, .int .u8 0, .int .u8 0, .int .u8 0, .int .u8 0, .bool false, .int .i64 0] 72)) := hHeld.trans ((below_alloc (Below.refl _ _) _).mono hHeld.size)
        have hnw := World.alloc_heap_new wd (.cells #[.int .i64 0, .int .u16 0, .int .i64 0, .int .u8 0, .int .u8 0, .int .u8 0, .int .u8 0, .int .u8 0, .int .u8 0, .int .u8 0, .int .u8 0, .bool false, .int .i64 0] 72)
        have hgb := Aside0.mk hHeld.size
        refine hK.out _ _ hb2 (fun hHeld2 => ?_)
        clear hK K hHeld
        try simp only [Act.put, List.setIfInBounds_toArray, List.set_cons_zero, List.set_cons_succ]
        generalize wd.heap.size = t at hnw hgb hb2 hHeld2 ⊢
        generalize wd.alloc (.cells #[.int .i64 0, .int .u16 0, .int .i64 0, .int .u8 0, .int .u8 0, .int .u8 0, .int .u8 0, .int .u8 0, .int .u8 0, .int .u8 0, .int .u8 0, .bool false, .int .i64 0] 72) = W1 at hnw hb2 hHeld2 ⊢
        have hth : Aside0 (W1.there t 0 13) := ⟨fun j hj => ⟨by rw [blk_cell hnw, Option.isSome_iff_exists]; exact ⟨_, Array.getElem?_eq_getElem (by simp; omega)⟩, blk_frozen hnw _⟩⟩
        have hw2 := row13 hnw (.int .i64 x.nd) (.int .u16 x.id) (.int .i64 x.len) (.int .u8 x.x0) (.int .u8 x.x1) (.int .u8 x.x2) (.int .u8 x.x3) (.int .u8 x.x4) (.int .u8 x.x5) (.int .u8 x.x6) (.int .u8 x.x7) (.bool x.rem) (.int .i64 x.num)
        have hb3 : Below w1.heap.size w1 (W1.setCells t 0 [.int .i64 x.nd, .int .u16 x.id, .int .i64 x.len, .int .u8 x.x0, .int .u8 x.x1, .int .u8 x.x2, .int .u8 x.x3, .int .u8 x.x4, .int .u8 x.x5, .int .u8 x.x6, .int .u8 x.x7, .bool x.rem, .int .i64 x.num]) := hb2.trans (below_cells hgb.out _ _ (Below.refl _ _))
        refine wpAnyH_ready (rs := [8]) (by kernel_rfl) (by simp) ?_
        refine AllReadyH.cons (o := { dst := none, op := Op.store 72 (Operand.tmp 7) (Operand.tmp 27), type := 0, pos := _, after := _, guard := none }) rfl (fun K hK => ?_) AllReadyH.nil
        rw [if_pos (wanted_none rfl)]
        refine wp_store_mid 72 (Operand.tmp 7) (Operand.tmp 27) ?s1 t 0 #[.int .i64 x.nd, .int .u16 x.id, .int .i64 x.len, .int .u8 x.x0, .int .u8 x.x1, .int .u8 x.x2, .int .u8 x.x3, .int .u8 x.x4, .int .u8 x.x5, .int .u8 x.x6, .int .u8 x.x7, .bool x.rem, .int .i64 x.num] ?s2 ?s3 hth.out size_rsn (all_oneCell_toArray one1.out) ?_
        case s1 => rfl
        case s2 => rfl
        case s3 => rfl
        refine hK.out _ _ hb3 (fun hHeld3 => ?_)
        clear hK K hHeld2
        refine wpAnyH_done (by kernel_rfl) ?_ _
        have hw3 : (W1.setCells t 0 [.int .i64 x.nd, .int .u16 x.id, .int .i64 x.len, .int .u8 x.x0, .int .u8 x.x1, .int .u8 x.x2, .int .u8 x.x3, .int .u8 x.x4, .int .u8 x.x5, .int .u8 x.x6, .int .u8 x.x7, .bool x.rem, .int .i64 x.num]).heap[t]? = some (.cells x.cells.toArray 72 (0, 0)) := hw2
        clear hw2 hnw hb2 hth hHeld3 f0 f1 f2 f3 f4 f5 f6 f7 f8 f9 f10 u1
        generalize W1.setCells t 0 [.int .i64 x.nd, .int .u16 x.id, .int .i64 x.len, .int .u8 x.x0, .int .u8 x.x1, .int .u8 x.x2, .int .u8 x.x3, .int .u8 x.x4, .int .u8 x.x5, .int .u8 x.x6, .int .u8 x.x7, .bool x.rem, .int .i64 x.num] = W3 at hw3 hb3 ⊢
        have HW3 := Aside0.mk hw3
        have HB3 := Aside0.mk (HB01.out.trans (hb3.mono HB01.out.size))
        clear hw3 hb3
        obtain ⟨n, hnn⟩ : ∃ n, l.length = n := ⟨_, rfl⟩
        have HN := Aside0.mk hnn
        rw [hnn] at hl h512
        rw [hnn]
        clear hnn
        go_wp2_with (fail)
        go_loopw [8] (fun i wr => ∃ (k : Nat), i = .int .i64 k ∧ k ≤ n ∧ Aside0 (∀ j, j < k → aheadC (nth l j) x = true) ∧ Aside0 (Below W3.heap.size W3 wr)) (fun i _ => n - (intOf i).toNat)
        case atStart => exact ⟨0, rfl, Nat.zero_le _, ⟨fun j hj => absurd hj (Nat.not_lt_zero _)⟩, ⟨Below.refl _ _⟩⟩
        case round =>
          obtain ⟨k, rfl, hk, HJ, HW⟩ := hrel
          have HBR := Aside0.mk (HB3.out.trans (HW.out.mono HB3.out.size))
          have hbr := HB.out.below HBR.out
          have hxr := blk_below HW3.out HW.out
          have z0 : ∀ m os, (grow (wr.drewN m) os).cell? ⟨gm, 0, none⟩ = some (.slice A n c) := fun m os => by
            have h1 := (hbr.below (below_grow0 wr m os)).cell0
            rwa [HN.out] at h1
          by_cases hkn : k < n
          · obtain ⟨y, hy⟩ : ∃ y, nth l k = y := ⟨_, rfl⟩
            obtain ⟨b, o, hA0, -⟩ := hbr.cells (i := k) (by rw [HN.out]; exact hkn)
            subst hA0
            have li : ∀ m os, CellsAt (grow (wr.drewN m) os) b (o + k * 13) y := fun m os => by
              obtain ⟨b', o', he, hc⟩ := (hbr.below (below_grow0 wr m os)).cells (i := k) (by rw [HN.out]; exact hkn)
              simp at he
              obtain ⟨rfl, rfl⟩ := he
              rwa [hy] at hc
            have lj : ∀ m os, CellsAt (grow (wr.drewN m) os) t 0 x := fun m os => by
              obtain ⟨f0, f1, f2, f3, f4, f5, f6, f7, f8, f9, f10, f11, f12, -⟩ := sn_at (s := x) (blk_below hxr (below_grow0 wr m os))
              exact ⟨f0, f1, f2, f3, f4, f5, f6, f7, f8, f9, f10, f11, f12⟩
            obtain ⟨q, hq⟩ : ∃ q, aheadC y x = q := ⟨_, rfl⟩
            have hA : ∀ m os, Calls Try.prog 40 #[.agg #[.int .i64 y.nd, .int .u16 y.id, .int .i64 y.len, .int .u8 y.x0, .int .u8 y.x1, .int .u8 y.x2, .int .u8 y.x3, .int .u8 y.x4, .int .u8 y.x5, .int .u8 y.x6, .int .u8 y.x7, .bool y.rem, .int .i64 y.num], .agg #[.int .i64 x.nd, .int .u16 x.id, .int .i64 x.len, .int .u8 x.x0, .int .u8 x.x1, .int .u8 x.x2, .int .u8 x.x3, .int .u8 x.x4, .int .u8 x.x5, .int .u8 x.x6, .int .u8 x.x7, .bool x.rem, .int .i64 x.num]] (grow (wr.drewN m) os) fun e w' => e = .returned (.bool q) ∧ ∃ q os', w' = grow ((grow (wr.drewN m) os).drewN q) os' := fun m os =>
              (hq ▸ rahead_any y x _).mono fun e w' ⟨he, os', hw⟩ => ⟨he, 0, os', hw⟩
            have HQ := Aside0.mk (show aheadC (nth l k) x = q by rw [hy]; exact hq)
            have ek : ((k : Int)).toNat = k := by omega
            have bk : (k : Int) < (n : Int) := by omega
            have a0 := fun m os => (li m os).1
            have a1 := fun m os => (li m os).2.1
            have a2 := fun m os => (li m os).2.2.1
            have a3 := fun m os => (li m os).2.2.2.1
            have a4 := fun m os => (li m os).2.2.2.2.1
            have a5 := fun m os => (li m os).2.2.2.2.2.1
            have a6 := fun m os => (li m os).2.2.2.2.2.2.1
            have a7 := fun m os => (li m os).2.2.2.2.2.2.2.1
            have a8 := fun m os => (li m os).2.2.2.2.2.2.2.2.1
            have a9 := fun m os => (li m os).2.2.2.2.2.2.2.2.2.1
            have a10 := fun m os => (li m os).2.2.2.2.2.2.2.2.2.2.1
            have a11 := fun m os => (li m os).2.2.2.2.2.2.2.2.2.2.2.1
            have a12 := fun m os => (li m os).2.2.2.2.2.2.2.2.2.2.2.2
            have b0 := fun m os => (lj m os).1
            have b1 := fun m os => (lj m os).2.1
            have b2 := fun m os => (lj m os).2.2.1
            have b3 := fun m os => (lj m os).2.2.2.1
            have b4 := fun m os => (lj m os).2.2.2.2.1
            have b5 := fun m os => (lj m os).2.2.2.2.2.1
            have b6 := fun m os => (lj m os).2.2.2.2.2.2.1
            have b7 := fun m os => (lj m os).2.2.2.2.2.2.2.1
            have b8 := fun m os => (lj m os).2.2.2.2.2.2.2.2.1
            have b9 := fun m os => (lj m os).2.2.2.2.2.2.2.2.2.1
            have b10 := fun m os => (lj m os).2.2.2.2.2.2.2.2.2.2.1
            have b11 := fun m os => (lj m os).2.2.2.2.2.2.2.2.2.2.2.1
            have b12 := fun m os => (lj m os).2.2.2.2.2.2.2.2.2.2.2.2
            clear li lj hq hy hbr hxr
            go_wp2_with (fail)
            go_quiet_grown (refine Calls.grown_of (hA _ _))
            have HWX := Aside0.mk (HW.out.trans ((below_grow0 wr nq osq).mono HW.out.size))
            dsimp only
            generalize grow (wr.drewN nq) osq = wx at HWX ⊢
            have HBX9 := Aside0.mk (HB3.out.trans (HWX.out.mono HB3.out.size))
            have HXT := Aside0.mk (blk_below HW3.out HWX.out)
            clear z0 hA a0 a1 a2 a3 a4 a5 a6 a7 a8 a9 a10 a11 a12 b0 b1 b2 b3 b4 b5 b6 b7 b8 b9 b10 b11 b12
            rcases q with _ | _
            · have HAT := Aside0.mk (atL_step HJ.out (by rw [HN.out]; exact hkn) HQ.out)
              have hcap : n ≤ c := by have h1 := HB.out.cap; rwa [HN.out] at h1
              have hck : ¬ c = k := by omega
              have hkn2 : k ≤ n := by omega
              have hkc : k ≤ c := by omega
              have HD := Aside0.mk (show ∀ Z, Below w.heap.size w Z → kSn.C Z (some ⟨b, o + k * 13, none⟩) (n - k) (l.drop k) from fun Z hZ => by
                have h1 := Kd.C_drop (m := k) (HB.out.below hZ).row (by rw [HN.out]; exact hk) HB.out.cap
                rw [if_neg hck, show (l.drop k).length = n - k by rw [List.length_drop, HN.out]] at h1
                simp only [Option.map_some] at h1
                rw [Addr.add_mid] at h1
                exact h1)
              have hbt := HB.out.below (HBX9.out)
              have hxt := HXT.out
              have z0 := hbt.cell0
              rw [HN.out] at z0
              have HC1 := Aside0.mk (show kSn.C wx (some ⟨b, o, none⟩) k (l.take k) from by
                have h1 := Kd.C_take (m := k) hbt.row (by rw [HN.out]; omega)
                rwa [show (l.take k).length = k by rw [List.length_take, HN.out]; omega] at h1)
              have HLT := Aside0.mk (show (l.take k).length ≤ 100000 by rw [List.length_take, HN.out]; omega)
              have HSX := Aside0.mk HBX9.out.size
              clear hbt
              go_wp2_with (first
                | ((with_reducible refine gate_dst (N := 55) rfl ?_); go_loud (refine Kd.R_append_rows kSn (Rr := fun x cs => kSn.K wx x cs) (w0 := w) w.heap.size rfl (.tmp 48) (.tmp 54) 47 72 (.agg #[.int .i64 0, .int .u16 0, .int .i64 0, .int .u8 0, .int .u8 0, .int .u8 0, .int .u8 0, .int .u8 0, .int .u8 0, .int .u8 0, .int .u8 0, .bool false, .int .i64 0]) 48 rfl Try.underlying47 info_rsn rfl (by decide) (by decide) (.slice none 0 0) [] (l.take k) _ _ _ (fun b => w.heap.size ≤ b) (fun _ => False) rfl rfl (Kd.R_nil _ _ _ _ _) HC1.out (fun x cs hx => hx) (fun k hk => hk.elim) (fun k hk => Nat.le_trans HSX.out hk) HBX9.out HSX.out (by simp only [List.length_nil]; omega) ?_; intro v1 w2 hown hb hg hat; rw [List.nil_append] at hown; have HO2 := Aside0.mk hown; have HW2 := Aside0.mk hb; have hx2 := keep_g HXT.out hg (by simp [Value.ownBlock]); have HX2 := Aside0.mk hx2; have HS2 := Aside0.mk hb.size; have q0 := ((HB.out.below hb).cell0); rw [HN.out] at q0; obtain ⟨f0, f1, f2, f3, f4, f5, f6, f7, f8, f9, f10, f11, f12, f13⟩ := sn_at (s := x) hx2; clear hown hb hg hat hx2 hxt z0))
                | ((with_reducible refine gate_builtin (b := .append) (xs := #[.tmp 56, .tmp 58]) rfl ?_); at_builtin; go_loud (refine Kd.R_append kSn (w0 := w) w.heap.size rfl (.tmp 56) (.tmp 58) 47 72 (.agg #[.int .i64 0, .int .u16 0, .int .i64 0, .int .u8 0, .int .u8 0, .int .u8 0, .int .u8 0, .int .u8 0, .int .u8 0, .int .u8 0, .int .u8 0, .bool false, .int .i64 0]) 48 rfl Try.underlying47 info_rsn rfl (by decide) (by decide) _ (l.take k) x [.int .i64 x.nd, .int .u16 x.id, .int .i64 x.len, .int .u8 x.x0, .int .u8 x.x1, .int .u8 x.x2, .int .u8 x.x3, .int .u8 x.x4, .int .u8 x.x5, .int .u8 x.x6, .int .u8 x.x7, .bool x.rem, .int .i64 x.num] (fun b => w.heap.size ≤ b) (fun _ => False) rfl rfl rfl (fun _ hk => hk.elim) (fun k hk => Nat.le_trans HS2.out hk) HO2.out HW2.out HS2.out (by have := HLT.out; omega) ?_; intro v2 w3 hown hb hg hat; have HO3 := Aside0.mk hown; have HW3b := Aside0.mk hb; have HS3 := Aside0.mk hb.size; have r0 := ((HB.out.below hb).cell0); rw [HN.out] at r0; clear hown hb hg hat f0 f1 f2 f3 f4 f5 f6 f7 f8 f9 f10 f11 f12 f13 q0))
                | ((with_reducible refine gate_dst (N := 67) rfl ?_); go_loud (refine Kd.R_append_rows kSn (Rr := fun x cs => kSn.K w3 x cs) (w0 := w) w.heap.size rfl (.tmp 60) (.tmp 66) 47 72 (.agg #[.int .i64 0, .int .u16 0, .int .i64 0, .int .u8 0, .int .u8 0, .int .u8 0, .int .u8 0, .int .u8 0, .int .u8 0, .int .u8 0, .int .u8 0, .bool false, .int .i64 0]) 48 rfl Try.underlying47 info_rsn rfl (by decide) (by decide) _ (l.take k ++ [x]) (l.drop k) _ _ _ (fun b => w.heap.size ≤ b) (fun _ => False) rfl rfl HO3.out (HD.out w3 HW3b.out) (fun x cs hx => hx) (fun k hk => hk.elim) (fun k hk => Nat.le_trans HS3.out hk) HW3b.out HS3.out (by have := HLT.out; simp only [List.length_append, List.length_singleton]; omega) ?_; intro v3 w4 hown hb hg hat; obtain ⟨A9, c9, hv9, -⟩ := Kd.R_reads hown; obtain ⟨n9, hn9⟩ : ∃ n9, (l.take k ++ [x] ++ l.drop k).length = n9 := ⟨_, rfl⟩; rw [hn9] at hv9; subst hv9; have HO4 := Aside0.mk hown; have HW4 := Aside0.mk hb; have hr4 := (HB.out.below hb); have HR4 := Aside0.mk hr4; have s0 := hr4.cell0; have s1 := hr4.cell1; have sf := hr4.frozen; clear hown hb hg hat hr4 r0 hn9)))
              have HFIN := Aside0.mk (ref_row (R_setfar (j := 1) (u := .int .i64 (x.num + 1)) (R_setfar (j := 0) (u := .slice A9 n9 c9) HO4.out HL.out) HL.out) (blk_put (blk_put HR4.out.blk 0 (.slice A9 n9 c9) rfl) 1 (.int .i64 (x.num + 1)) rfl) HL.out)
              have HFR := Aside0.mk (show Fr (fun k => k = gm) w ((w4.setCell ⟨gm, 0, none⟩ (.slice A9 n9 c9)).setCell ⟨gm, 1, none⟩ (.int .i64 (x.num + 1))) from ((Fr.of_below (M := fun k => k = gm) HW4.out).trans (Fr.setCell w4 ⟨gm, 0, none⟩ _ (.inl rfl))).trans (Fr.setCell _ ⟨gm, 1, none⟩ _ (.inl rfl)))
              go_ret
              obtain ⟨A2, c2, -, h1, h2⟩ := HFIN.out
              refine ⟨rfl, A2, c2, _, _, ?_, ⟨rfl, rfl, h2⟩, HFR.out, fun ad e => .inr (h2 ad e)⟩
              rw [insL, HAT.out]
              exact h1
            · have HJ1 := Aside0.mk (show ∀ j, j < k + 1 → aheadC (nth l j) x = true from fun j hj => by
                by_cases h : j = k
                · rw [h]; exact HQ.out
                · exact HJ.out j (by omega))
              go_wp2_with (fail)
              go_roundw
              case rel => exact ⟨k + 1, by go_num, by omega, HJ1, HWX⟩
              case measure => simp [intOf]; omega
          · obtain rfl : k = n := by omega
            have HAT := Aside0.mk (show atL l x = k from (atL_all (by rw [HN.out]; exact HJ.out)).trans HN.out)
            clear hbr hxr
            have z1 : ∀ m, (wr.drewN m).cell? ⟨gm, 0, none⟩ = some (.slice A k c) := fun m => z0 m #[]
            clear z0
            go_wp2_with (fail)
            go_quiet (fail)
            have HWX := Aside0.mk (HW.out.trans ((show Below wr.heap.size wr (wr.drewN nq) from ⟨rfl, rfl, rfl, Nat.le_refl _, fun _ _ => rfl⟩).mono HW.out.size))
            generalize wr.drewN nq = wx at HWX ⊢
            have HBX9 := Aside0.mk (HB3.out.trans (HWX.out.mono HB3.out.size))
            have HXT := Aside0.mk (blk_below HW3.out HWX.out)
            have HDN := Aside0.mk (show l.drop k = [] from List.drop_eq_nil_of_le (by rw [HN.out]; exact Nat.le_refl _))
            have hcap : k ≤ c := by have h1 := HB.out.cap; rwa [HN.out] at h1
            clear z1
            rcases A with _ | ⟨b, o, ex⟩
            · obtain rfl : k = 0 := by
                apply Classical.byContradiction
                intro hne
                obtain ⟨ad, e, _⟩ := HB.out.row.2.2 (by rw [HN.out]; omega)
                cases e
              have hbt := HB.out.below (HBX9.out)
              have hxt := HXT.out
              have z0 := hbt.cell0
              rw [HN.out] at z0
              have HC1 := Aside0.mk (show kSn.C wx none 0 (l.take 0) from by
                have h1 := Kd.C_take (m := 0) hbt.row (by rw [HN.out]; omega)
                rwa [show (l.take 0).length = 0 by rw [List.length_take, HN.out]; omega] at h1)
              have HLT := Aside0.mk (show (l.take 0).length ≤ 100000 by rw [List.length_take, HN.out]; omega)
              have HSX := Aside0.mk HBX9.out.size
              clear hbt
              go_wp2_with (first
                | ((with_reducible refine gate_dst (N := 55) rfl ?_); go_loud (refine Kd.R_append_rows kSn (Rr := fun x cs => kSn.K wx x cs) (w0 := w) w.heap.size rfl (.tmp 48) (.tmp 54) 47 72 (.agg #[.int .i64 0, .int .u16 0, .int .i64 0, .int .u8 0, .int .u8 0, .int .u8 0, .int .u8 0, .int .u8 0, .int .u8 0, .int .u8 0, .int .u8 0, .bool false, .int .i64 0]) 48 rfl Try.underlying47 info_rsn rfl (by decide) (by decide) (.slice none 0 0) [] (l.take 0) _ _ _ (fun b => w.heap.size ≤ b) (fun _ => False) rfl rfl (Kd.R_nil _ _ _ _ _) HC1.out (fun x cs hx => hx) (fun k hk => hk.elim) (fun k hk => Nat.le_trans HSX.out hk) HBX9.out HSX.out (by simp only [List.length_nil]; omega) ?_; intro v1 w2 hown hb hg hat; rw [List.nil_append] at hown; have HO2 := Aside0.mk hown; have HW2 := Aside0.mk hb; have hx2 := keep_g HXT.out hg (by simp [Value.ownBlock]); have HX2 := Aside0.mk hx2; have HS2 := Aside0.mk hb.size; have q0 := ((HB.out.below hb).cell0); rw [HN.out] at q0; obtain ⟨f0, f1, f2, f3, f4, f5, f6, f7, f8, f9, f10, f11, f12, f13⟩ := sn_at (s := x) hx2; clear hown hb hg hat hx2 hxt z0))
                | ((with_reducible refine gate_builtin (b := .append) (xs := #[.tmp 56, .tmp 58]) rfl ?_); at_builtin; go_loud (refine Kd.R_append kSn (w0 := w) w.heap.size rfl (.tmp 56) (.tmp 58) 47 72 (.agg #[.int .i64 0, .int .u16 0, .int .i64 0, .int .u8 0, .int .u8 0, .int .u8 0, .int .u8 0, .int .u8 0, .int .u8 0, .int .u8 0, .int .u8 0, .bool false, .int .i64 0]) 48 rfl Try.underlying47 info_rsn rfl (by decide) (by decide) _ (l.take 0) x [.int .i64 x.nd, .int .u16 x.id, .int .i64 x.len, .int .u8 x.x0, .int .u8 x.x1, .int .u8 x.x2, .int .u8 x.x3, .int .u8 x.x4, .int .u8 x.x5, .int .u8 x.x6, .int .u8 x.x7, .bool x.rem, .int .i64 x.num] (fun b => w.heap.size ≤ b) (fun _ => False) rfl rfl rfl (fun _ hk => hk.elim) (fun k hk => Nat.le_trans HS2.out hk) HO2.out HW2.out HS2.out (by have := HLT.out; omega) ?_; intro v2 w3 hown hb hg hat; have HO3 := Aside0.mk hown; have HW3b := Aside0.mk hb; have HS3 := Aside0.mk hb.size; have r0 := ((HB.out.below hb).cell0); rw [HN.out] at r0; clear hown hb hg hat f0 f1 f2 f3 f4 f5 f6 f7 f8 f9 f10 f11 f12 f13 q0))
                | ((with_reducible refine gate_dst (N := 67) rfl ?_); go_loud (refine Kd.R_append_rows kSn (Rr := fun x cs => kSn.K w3 x cs) (w0 := w) w.heap.size rfl (.tmp 60) (.tmp 66) 47 72 (.agg #[.int .i64 0, .int .u16 0, .int .i64 0, .int .u8 0, .int .u8 0, .int .u8 0, .int .u8 0, .int .u8 0, .int .u8 0, .int .u8 0, .int .u8 0, .bool false, .int .i64 0]) 48 rfl Try.underlying47 info_rsn rfl (by decide) (by decide) _ (l.take 0 ++ [x]) (l.drop 0) _ _ _ (fun b => w.heap.size ≤ b) (fun _ => False) rfl rfl HO3.out (rows_zero _ _ _ _ _ HDN.out (by first | rfl | simp | omega)) (fun x cs hx => hx) (fun k hk => hk.elim) (fun k hk => Nat.le_trans HS3.out hk) HW3b.out HS3.out (by have := HLT.out; simp only [List.length_append, List.length_singleton]; omega) ?_; intro v3 w4 hown hb hg hat; obtain ⟨A9, c9, hv9, -⟩ := Kd.R_reads hown; obtain ⟨n9, hn9⟩ : ∃ n9, (l.take 0 ++ [x] ++ l.drop 0).length = n9 := ⟨_, rfl⟩; rw [hn9] at hv9; subst hv9; have HO4 := Aside0.mk hown; have HW4 := Aside0.mk hb; have hr4 := (HB.out.below hb); have HR4 := Aside0.mk hr4; have s0 := hr4.cell0; have s1 := hr4.cell1; have sf := hr4.frozen; clear hown hb hg hat hr4 r0 hn9)))
              have HFIN := Aside0.mk (ref_row (R_setfar (j := 1) (u := .int .i64 (x.num + 1)) (R_setfar (j := 0) (u := .slice A9 n9 c9) HO4.out HL.out) HL.out) (blk_put (blk_put HR4.out.blk 0 (.slice A9 n9 c9) rfl) 1 (.int .i64 (x.num + 1)) rfl) HL.out)
              have HFR := Aside0.mk (show Fr (fun k => k = gm) w ((w4.setCell ⟨gm, 0, none⟩ (.slice A9 n9 c9)).setCell ⟨gm, 1, none⟩ (.int .i64 (x.num + 1))) from ((Fr.of_below (M := fun k => k = gm) HW4.out).trans (Fr.setCell w4 ⟨gm, 0, none⟩ _ (.inl rfl))).trans (Fr.setCell _ ⟨gm, 1, none⟩ _ (.inl rfl)))
              go_ret
              obtain ⟨A2, c2, -, h1, h2⟩ := HFIN.out
              refine ⟨rfl, A2, c2, _, _, ?_, ⟨rfl, rfl, h2⟩, HFR.out, fun ad e => .inr (h2 ad e)⟩
              rw [insL, HAT.out]
              exact h1
            · obtain rfl : ex = none := by
                have h1 := HB.out.pl _ rfl
                simp at h1
                exact h1
              by_cases hck : c = k
              · subst hck
                have hbt := HB.out.below (HBX9.out)
                have hxt := HXT.out
                have z0 := hbt.cell0
                rw [HN.out] at z0
                have HC1 := Aside0.mk (show kSn.C wx (some ⟨b, o, none⟩) c (l.take c) from by
                  have h1 := Kd.C_take (m := c) hbt.row (by rw [HN.out]; omega)
                  rwa [show (l.take c).length = c by rw [List.length_take, HN.out]; omega] at h1)
                have HLT := Aside0.mk (show (l.take c).length ≤ 100000 by rw [List.length_take, HN.out]; omega)
                have HSX := Aside0.mk HBX9.out.size
                clear hbt
                go_wp2_with (first
                  | ((with_reducible refine gate_dst (N := 55) rfl ?_); go_loud (refine Kd.R_append_rows kSn (Rr := fun x cs => kSn.K wx x cs) (w0 := w) w.heap.size rfl (.tmp 48) (.tmp 54) 47 72 (.agg #[.int .i64 0, .int .u16 0, .int .i64 0, .int .u8 0, .int .u8 0, .int .u8 0, .int .u8 0, .int .u8 0, .int .u8 0, .int .u8 0, .int .u8 0, .bool false, .int .i64 0]) 48 rfl Try.underlying47 info_rsn rfl (by decide) (by decide) (.slice none 0 0) [] (l.take c) _ _ _ (fun b => w.heap.size ≤ b) (fun _ => False) rfl rfl (Kd.R_nil _ _ _ _ _) HC1.out (fun x cs hx => hx) (fun k hk => hk.elim) (fun k hk => Nat.le_trans HSX.out hk) HBX9.out HSX.out (by simp only [List.length_nil]; omega) ?_; intro v1 w2 hown hb hg hat; rw [List.nil_append] at hown; have HO2 := Aside0.mk hown; have HW2 := Aside0.mk hb; have hx2 := keep_g HXT.out hg (by simp [Value.ownBlock]); have HX2 := Aside0.mk hx2; have HS2 := Aside0.mk hb.size; have q0 := ((HB.out.below hb).cell0); rw [HN.out] at q0; obtain ⟨f0, f1, f2, f3, f4, f5, f6, f7, f8, f9, f10, f11, f12, f13⟩ := sn_at (s := x) hx2; clear hown hb hg hat hx2 hxt z0))
                  | ((with_reducible refine gate_builtin (b := .append) (xs := #[.tmp 56, .tmp 58]) rfl ?_); at_builtin; go_loud (refine Kd.R_append kSn (w0 := w) w.heap.size rfl (.tmp 56) (.tmp 58) 47 72 (.agg #[.int .i64 0, .int .u16 0, .int .i64 0, .int .u8 0, .int .u8 0, .int .u8 0, .int .u8 0, .int .u8 0, .int .u8 0, .int .u8 0, .int .u8 0, .bool false, .int .i64 0]) 48 rfl Try.underlying47 info_rsn rfl (by decide) (by decide) _ (l.take c) x [.int .i64 x.nd, .int .u16 x.id, .int .i64 x.len, .int .u8 x.x0, .int .u8 x.x1, .int .u8 x.x2, .int .u8 x.x3, .int .u8 x.x4, .int .u8 x.x5, .int .u8 x.x6, .int .u8 x.x7, .bool x.rem, .int .i64 x.num] (fun b => w.heap.size ≤ b) (fun _ => False) rfl rfl rfl (fun _ hk => hk.elim) (fun k hk => Nat.le_trans HS2.out hk) HO2.out HW2.out HS2.out (by have := HLT.out; omega) ?_; intro v2 w3 hown hb hg hat; have HO3 := Aside0.mk hown; have HW3b := Aside0.mk hb; have HS3 := Aside0.mk hb.size; have r0 := ((HB.out.below hb).cell0); rw [HN.out] at r0; clear hown hb hg hat f0 f1 f2 f3 f4 f5 f6 f7 f8 f9 f10 f11 f12 f13 q0))
                  | ((with_reducible refine gate_dst (N := 67) rfl ?_); go_loud (refine Kd.R_append_rows kSn (Rr := fun x cs => kSn.K w3 x cs) (w0 := w) w.heap.size rfl (.tmp 60) (.tmp 66) 47 72 (.agg #[.int .i64 0, .int .u16 0, .int .i64 0, .int .u8 0, .int .u8 0, .int .u8 0, .int .u8 0, .int .u8 0, .int .u8 0, .int .u8 0, .int .u8 0, .bool false, .int .i64 0]) 48 rfl Try.underlying47 info_rsn rfl (by decide) (by decide) _ (l.take c ++ [x]) (l.drop c) _ _ _ (fun b => w.heap.size ≤ b) (fun _ => False) rfl rfl HO3.out (rows_zero _ _ _ _ _ HDN.out (by first | rfl | simp | omega)) (fun x cs hx => hx) (fun k hk => hk.elim) (fun k hk => Nat.le_trans HS3.out hk) HW3b.out HS3.out (by have := HLT.out; simp only [List.length_append, List.length_singleton]; omega) ?_; intro v3 w4 hown hb hg hat; obtain ⟨A9, c9, hv9, -⟩ := Kd.R_reads hown; obtain ⟨n9, hn9⟩ : ∃ n9, (l.take c ++ [x] ++ l.drop c).length = n9 := ⟨_, rfl⟩; rw [hn9] at hv9; subst hv9; have HO4 := Aside0.mk hown; have HW4 := Aside0.mk hb; have hr4 := (HB.out.below hb); have HR4 := Aside0.mk hr4; have s0 := hr4.cell0; have s1 := hr4.cell1; have sf := hr4.frozen; clear hown hb hg hat hr4 r0 hn9)))
                have HFIN := Aside0.mk (ref_row (R_setfar (j := 1) (u := .int .i64 (x.num + 1)) (R_setfar (j := 0) (u := .slice A9 n9 c9) HO4.out HL.out) HL.out) (blk_put (blk_put HR4.out.blk 0 (.slice A9 n9 c9) rfl) 1 (.int .i64 (x.num + 1)) rfl) HL.out)
                have HFR := Aside0.mk (show Fr (fun k => k = gm) w ((w4.setCell ⟨gm, 0, none⟩ (.slice A9 n9 c9)).setCell ⟨gm, 1, none⟩ (.int .i64 (x.num + 1))) from ((Fr.of_below (M := fun k => k = gm) HW4.out).trans (Fr.setCell w4 ⟨gm, 0, none⟩ _ (.inl rfl))).trans (Fr.setCell _ ⟨gm, 1, none⟩ _ (.inl rfl)))
                go_ret
                obtain ⟨A2, c2, -, h1, h2⟩ := HFIN.out
                refine ⟨rfl, A2, c2, _, _, ?_, ⟨rfl, rfl, h2⟩, HFR.out, fun ad e => .inr (h2 ad e)⟩
                rw [insL, HAT.out]
                exact h1
              · 
                have hbt := HB.out.below (HBX9.out)
                have hxt := HXT.out
                have z0 := hbt.cell0
                rw [HN.out] at z0
                have HC1 := Aside0.mk (show kSn.C wx (some ⟨b, o, none⟩) k (l.take k) from by
                  have h1 := Kd.C_take (m := k) hbt.row (by rw [HN.out]; omega)
                  rwa [show (l.take k).length = k by rw [List.length_take, HN.out]; omega] at h1)
                have HLT := Aside0.mk (show (l.take k).length ≤ 100000 by rw [List.length_take, HN.out]; omega)
                have HSX := Aside0.mk HBX9.out.size
                clear hbt
                go_wp2_with (first
                  | ((with_reducible refine gate_dst (N := 55) rfl ?_); go_loud (refine Kd.R_append_rows kSn (Rr := fun x cs => kSn.K wx x cs) (w0 := w) w.heap.size rfl (.tmp 48) (.tmp 54) 47 72 (.agg #[.int .i64 0, .int .u16 0, .int .i64 0, .int .u8 0, .int .u8 0, .int .u8 0, .int .u8 0, .int .u8 0, .int .u8 0, .int .u8 0, .int .u8 0, .bool false, .int .i64 0]) 48 rfl Try.underlying47 info_rsn rfl (by decide) (by decide) (.slice none 0 0) [] (l.take k) _ _ _ (fun b => w.heap.size ≤ b) (fun _ => False) rfl rfl (Kd.R_nil _ _ _ _ _) HC1.out (fun x cs hx => hx) (fun k hk => hk.elim) (fun k hk => Nat.le_trans HSX.out hk) HBX9.out HSX.out (by simp only [List.length_nil]; omega) ?_; intro v1 w2 hown hb hg hat; rw [List.nil_append] at hown; have HO2 := Aside0.mk hown; have HW2 := Aside0.mk hb; have hx2 := keep_g HXT.out hg (by simp [Value.ownBlock]); have HX2 := Aside0.mk hx2; have HS2 := Aside0.mk hb.size; have q0 := ((HB.out.below hb).cell0); rw [HN.out] at q0; obtain ⟨f0, f1, f2, f3, f4, f5, f6, f7, f8, f9, f10, f11, f12, f13⟩ := sn_at (s := x) hx2; clear hown hb hg hat hx2 hxt z0))
                  | ((with_reducible refine gate_builtin (b := .append) (xs := #[.tmp 56, .tmp 58]) rfl ?_); at_builtin; go_loud (refine Kd.R_append kSn (w0 := w) w.heap.size rfl (.tmp 56) (.tmp 58) 47 72 (.agg #[.int .i64 0, .int .u16 0, .int .i64 0, .int .u8 0, .int .u8 0, .int .u8 0, .int .u8 0, .int .u8 0, .int .u8 0, .int .u8 0, .int .u8 0, .bool false, .int .i64 0]) 48 rfl Try.underlying47 info_rsn rfl (by decide) (by decide) _ (l.take k) x [.int .i64 x.nd, .int .u16 x.id, .int .i64 x.len, .int .u8 x.x0, .int .u8 x.x1, .int .u8 x.x2, .int .u8 x.x3, .int .u8 x.x4, .int .u8 x.x5, .int .u8 x.x6, .int .u8 x.x7, .bool x.rem, .int .i64 x.num] (fun b => w.heap.size ≤ b) (fun _ => False) rfl rfl rfl (fun _ hk => hk.elim) (fun k hk => Nat.le_trans HS2.out hk) HO2.out HW2.out HS2.out (by have := HLT.out; omega) ?_; intro v2 w3 hown hb hg hat; have HO3 := Aside0.mk hown; have HW3b := Aside0.mk hb; have HS3 := Aside0.mk hb.size; have r0 := ((HB.out.below hb).cell0); rw [HN.out] at r0; clear hown hb hg hat f0 f1 f2 f3 f4 f5 f6 f7 f8 f9 f10 f11 f12 f13 q0))
                  | ((with_reducible refine gate_dst (N := 67) rfl ?_); go_loud (refine Kd.R_append_rows kSn (Rr := fun x cs => kSn.K w3 x cs) (w0 := w) w.heap.size rfl (.tmp 60) (.tmp 66) 47 72 (.agg #[.int .i64 0, .int .u16 0, .int .i64 0, .int .u8 0, .int .u8 0, .int .u8 0, .int .u8 0, .int .u8 0, .int .u8 0, .int .u8 0, .int .u8 0, .bool false, .int .i64 0]) 48 rfl Try.underlying47 info_rsn rfl (by decide) (by decide) _ (l.take k ++ [x]) (l.drop k) _ _ _ (fun b => w.heap.size ≤ b) (fun _ => False) rfl rfl HO3.out (rows_zero _ _ _ _ _ HDN.out (by first | rfl | simp | omega)) (fun x cs hx => hx) (fun k hk => hk.elim) (fun k hk => Nat.le_trans HS3.out hk) HW3b.out HS3.out (by have := HLT.out; simp only [List.length_append, List.length_singleton]; omega) ?_; intro v3 w4 hown hb hg hat; obtain ⟨A9, c9, hv9, -⟩ := Kd.R_reads hown; obtain ⟨n9, hn9⟩ : ∃ n9, (l.take k ++ [x] ++ l.drop k).length = n9 := ⟨_, rfl⟩; rw [hn9] at hv9; subst hv9; have HO4 := Aside0.mk hown; have HW4 := Aside0.mk hb; have hr4 := (HB.out.below hb); have HR4 := Aside0.mk hr4; have s0 := hr4.cell0; have s1 := hr4.cell1; have sf := hr4.frozen; clear hown hb hg hat hr4 r0 hn9)))
                have HFIN := Aside0.mk (ref_row (R_setfar (j := 1) (u := .int .i64 (x.num + 1)) (R_setfar (j := 0) (u := .slice A9 n9 c9) HO4.out HL.out) HL.out) (blk_put (blk_put HR4.out.blk 0 (.slice A9 n9 c9) rfl) 1 (.int .i64 (x.num + 1)) rfl) HL.out)
                have HFR := Aside0.mk (show Fr (fun k => k = gm) w ((w4.setCell ⟨gm, 0, none⟩ (.slice A9 n9 c9)).setCell ⟨gm, 1, none⟩ (.int .i64 (x.num + 1))) from ((Fr.of_below (M := fun k => k = gm) HW4.out).trans (Fr.setCell w4 ⟨gm, 0, none⟩ _ (.inl rfl))).trans (Fr.setCell _ ⟨gm, 1, none⟩ _ (.inl rfl)))
                go_ret
                obtain ⟨A2, c2, -, h1, h2⟩ := HFIN.out
                refine ⟨rfl, A2, c2, _, _, ?_, ⟨rfl, rfl, h2⟩, HFR.out, fun ad e => .inr (h2 ad e)⟩
                rw [insL, HAT.out]
                exact h1
    · rw [if_pos (show ¬ Rt x.fm from hq)] at hr
      subst hr
      clear hq
      go_wp2_with (fail)
      go_ret
      exact ⟨rfl, A, c, l, x.num, HB1.out, .inr ⟨by decide, rfl, rfl⟩, RTurn.below HB01.out⟩
end Go.Proofs.Ytnjmohdfnicpdaa.Bus
