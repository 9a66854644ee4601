/- Pop of the bus's list (printed by gen_hf.py). -/
import Derived.Test.YtnjmohdfnicpdaaHe
namespace Go.Proofs.Ytnjmohdfnicpdaa.Bus
open Go.RowKit Go.Shelf Go.Lib Go.Sort Go.Proofs.Ytnjmohdfnicpdaa.Frm Go.Proofs.Ytnjmohdfnicpdaa.Rng Go.Proofs.YtnjmohdfnicpdaaW.PrintWords Go.Proofs.YtnjmohdfnicpdaaW.PrintMore Go.Proofs.YtnjmohdfnicpdaaW.PrintLast

theorem putAt13 (u0 u1 u2 u3 u4 u5 u6 u7 u8 u9 u10 u11 u12 v0 v1 v2 v3 v4 v5 v6 v7 v8 v9 v10 v11 v12 : Value) : putAt #[u0, u1, u2, u3, u4, u5, u6, u7, u8, u9, u10, u11, u12] 0 [v0, v1, v2, v3, v4, v5, v6, v7, v8, v9, v10, v11, v12] = #[v0, v1, v2, v3, v4, v5, v6, v7, v8, v9, v10, v11, v12] := by simp [putAt]
theorem row13 {W : World} {g : Nat} {t : TypeId} {u0 u1 u2 u3 u4 u5 u6 u7 u8 u9 u10 u11 u12 : Value} (h : W.heap[g]? = some (.cells #[u0, u1, u2, u3, u4, u5, u6, u7, u8, u9, u10, u11, u12] t (0, 0))) (v0 v1 v2 v3 v4 v5 v6 v7 v8 v9 v10 v11 v12 : Value) :
    (W.setCells g 0 [v0, v1, v2, v3, v4, v5, v6, v7, v8, v9, v10, v11, v12]).heap[g]? = some (.cells #[v0, v1, v2, v3, v4, v5, v6, v7, v8, v9, v10, v11, v12] t (0, 0)) := by
  rw [← putAt13 u0 u1 u2 u3 u4 u5 u6 u7 u8 u9 u10 u11 u12 v0 v1 v2 v3 v4 v5 v6 v7 v8 v9 v10 v11 v12]
  exact heap_setCells _ _ _ _ h
/-- A shorter row in the same block. -/
theorem R_cut {w : World} {gb c n g : Nat} {l m : List Sn} (h : Kd.R kSn 35 w 0 (fun k => k ≠ g) (.slice (some ⟨gb, 0, none⟩) n c) (l ++ m)) : Kd.R kSn 35 w 0 (fun k => k ≠ g) (.slice (some ⟨gb, 0, none⟩) l.length c) l := by
  obtain ⟨hok, inner, ⟨hil0, ho⟩, hr⟩ := h
  have hil : inner.length = (l ++ m).length * 13 := hil0
  rw [List.length_append] at hil
  refine ⟨fun k hk => hok k hk, inner.take (l.length * 13), ⟨by rw [List.length_take]; show _ = l.length * 13; omega, ?_⟩, by rw [List.length_take]; show _ = l.length * 13; omega, fun j p hj => ?_⟩
  · rcases ho with ⟨h0, _⟩ | ⟨gb', c', cur, he, hb0, hb, hlc, hmx, hsz, htake⟩
    · cases h0
    · obtain ⟨rfl, rfl, rfl⟩ : gb = gb' ∧ n = (l ++ m).length ∧ c = c' := by
        simp at he ⊢
        exact he
      rw [List.length_append] at hlc
      refine .inr ⟨gb, c, cur, rfl, hb0, hb, by omega, hmx, hsz, ?_⟩
      rw [← htake, List.take_take]
      congr 1
      show l.length * 13 = min (l.length * 13) ((l ++ m).length * 13)
      rw [List.length_append]
      omega
  · have hjl := (List.getElem?_eq_some_iff.1 hj).1
    have h1 := hr.2 j p (by rw [List.getElem?_append_left hjl]; exact hj)
    have h2 : (inner.drop (j * 13)).take 13 = p.cells := h1
    show ((inner.take (l.length * 13)).drop (j * 13)).take 13 = p.cells
    rw [← h2, List.drop_take, List.take_take]
    congr 1
    omega
set_option maxHeartbeats 4000000 in
set_option maxRecDepth 100000 in
theorem pop_any (w : World) (g : Nat) (v : Value) (l : List Sn) (N : Int) (x : Sn) (h : BusAt w g v (l ++ [x]) N) (hl : l.length ≤ 100000) :
    Calls Try.prog 76 #[.pointer (some ⟨g, 0, none⟩)] w fun e w' => e = .returned (.iface 35 (.agg #[.int .i64 x.nd, .int .u16 x.id, .int .i64 x.len, .int .u8 x.x0, .int .u8 x.x1, .int .u8 x.x2, .int .u8 x.x3, .int .u8 x.x4, .int .u8 x.x5, .int .u8 x.x6, .int .u8 x.x7, .bool x.rem, .int .i64 x.num])) ∧ ∃ v', BusAt w' g v' l N ∧ Turn g v v' w w' := by
  obtain ⟨gb, c, cur, rfl, hne, hb, hlc, _⟩ := h.own (by simp)
  have hx := h.cells (i := l.length) (by simp)
  rw [show nth (l ++ [x]) l.length = x from nth_some (by simp)] at hx
  rw [List.length_append, List.length_singleton] at hlc h ⊢
  obtain ⟨n, hn⟩ : ∃ n, l.length = n := ⟨_, rfl⟩
  have HN := Aside0.mk hn
  rw [hn] at hlc hx hl h ⊢
  have hBD : Below w.heap.size w w.drew := below_drew (Below.refl _ _)
  have hh : ∀ Z, Below w.heap.size w Z → BusAt Z g (.slice (some ⟨gb, 0, none⟩) (n + 1) c) (l ++ [x]) N := fun Z hZ => h.fr (Fr.of_below (M := fun _ => False) hZ) (fun h => h) (fun _ _ h => h)
  have hcx : ∀ Z, Below w.heap.size w Z → CellsAt Z gb (n * 13) x := fun Z hZ => by
    have h1 := (hh Z hZ).cells (i := n) (by simp [hn])
    rwa [show nth (l ++ [x]) n = x from nth_some (by simp [← hn])] at h1
  have u0 : ∀ Z, Below w.heap.size w Z → Z.cell? ⟨g, 0, none⟩ = some (.slice (some ⟨gb, 0, none⟩) (n + 1) c) := fun Z hZ => (hh Z hZ).cell0
  have a0 : ∀ Z, Below w.heap.size w Z → Z.cell? ⟨gb, n * 13, none⟩ = some (.int .i64 x.nd) := fun Z hZ => (hcx Z hZ).1
  have a1 : ∀ Z, Below w.heap.size w Z → Z.cell? ⟨gb, n * 13 + 1, none⟩ = some (.int .u16 x.id) := fun Z hZ => (hcx Z hZ).2.1
  have a2 : ∀ Z, Below w.heap.size w Z → Z.cell? ⟨gb, n * 13 + 2, none⟩ = some (.int .i64 x.len) := fun Z hZ => (hcx Z hZ).2.2.1
  have a3 : ∀ Z, Below w.heap.size w Z → Z.cell? ⟨gb, n * 13 + 3, none⟩ = some (.int .u8 x.x0) := fun Z hZ => (hcx Z hZ).2.2.2.1
  have a4 : ∀ Z, Below w.heap.size w Z → Z.cell? ⟨gb, n * 13 + 4, none⟩ = some (.int .u8 x.x1) := fun Z hZ => (hcx Z hZ).2.2.2.2.1
  have a5 : ∀ Z, Below w.heap.size w Z → Z.cell? ⟨gb, n * 13 + 5, none⟩ = some (.int .u8 x.x2) := fun Z hZ => (hcx Z hZ).2.2.2.2.2.1
  have a6 : ∀ Z, Below w.heap.size w Z → Z.cell? ⟨gb, n * 13 + 6, none⟩ = some (.int .u8 x.x3) := fun Z hZ => (hcx Z hZ).2.2.2.2.2.2.1
  have a7 : ∀ Z, Below w.heap.size w Z → Z.cell? ⟨gb, n * 13 + 7, none⟩ = some (.int .u8 x.x4) := fun Z hZ => (hcx Z hZ).2.2.2.2.2.2.2.1
  have a8 : ∀ Z, Below w.heap.size w Z → Z.cell? ⟨gb, n * 13 + 8, none⟩ = some (.int .u8 x.x5) := fun Z hZ => (hcx Z hZ).2.2.2.2.2.2.2.2.1
  have a9 : ∀ Z, Below w.heap.size w Z → Z.cell? ⟨gb, n * 13 + 9, none⟩ = some (.int .u8 x.x6) := fun Z hZ => (hcx Z hZ).2.2.2.2.2.2.2.2.2.1
  have a10 : ∀ Z, Below w.heap.size w Z → Z.cell? ⟨gb, n * 13 + 10, none⟩ = some (.int .u8 x.x7) := fun Z hZ => (hcx Z hZ).2.2.2.2.2.2.2.2.2.2.1
  have a11 : ∀ Z, Below w.heap.size w Z → Z.cell? ⟨gb, n * 13 + 11, none⟩ = some (.bool x.rem) := fun Z hZ => (hcx Z hZ).2.2.2.2.2.2.2.2.2.2.2.1
  have a12 : ∀ Z, Below w.heap.size w Z → Z.cell? ⟨gb, n * 13 + 12, none⟩ = some (.int .i64 x.num) := fun Z hZ => (hcx Z hZ).2.2.2.2.2.2.2.2.2.2.2.2
  have HH := Aside0.mk hh
  have HG := Aside0.mk h.lt
  have one1 := Aside0.mk x.cells_one
  change Aside0 (∀ v ∈ ([.int .i64 x.nd, .int .u16 x.id, .int .i64 x.len, .int .u8 x.x0, .int .u8 x.x1, .int .u8 x.x2, .int .u8 x.x3, .int .u8 x.x4, .int .u8 x.x5, .int .u8 x.x6, .int .u8 x.x7, .bool x.rem, .int .i64 x.num] : List Value), v.oneCell' = true) at one1
  have en : ((n : Int)).toNat = n := by omega
  have bn : (n : Int) < ((n + 1 : Nat) : Int) := by omega
  have bn1 : (n : Int) < (n : Int) + 1 := by omega
  have bc : (n : Int) ≤ (c : Int) := by omega
  have b0 : (0 : Int) ≤ (n : Int) := by omega
  have wr : IntKind.i64.wrap (n : Int) = (n : Int) := by rw [IntKind.wrap_i64]; omega
  clear h hh hcx hx hb
  go_enter Try.func76, Try.ntmps76
  go_wp2_with (fail)
  refine wp_region_held_drew (S := fun Z => Below w.heap.size w Z) (by kernel_rfl) hBD (fun hHeld => ?_)
  clear hBD
  generalize w.drew = wd at hHeld ⊢
  refine wpAnyH_take (i := 0) (oi := { dst := some 4, op := Op.move (Operand.tmp 0), type := 78, pos := _, after := _, guard := none }) (v := ?_) rfl (by kernel_rfl) (by kernel_rfl) (by kernel_rfl) (fun _ _ _ h => h) (Or.inl ⟨rfl, ?_⟩) hHeld ?_
  rotate_left
  · intro w hSw
    try dsimp only at hSw
    go_simp
    try exact rfl
  try simp only [Act.put, List.setIfInBounds_toArray, List.set_cons_zero, List.set_cons_succ]
  refine wpAnyH_take (i := 1) (oi := { dst := some 5, op := Op.nilCheck (Operand.tmp 4), type := 0, pos := _, after := _, guard := none }) (v := ?_) rfl (by kernel_rfl) (by kernel_rfl) (by kernel_rfl) (fun _ _ _ h => h) (Or.inl ⟨rfl, ?_⟩) hHeld ?_
  rotate_left
  · intro w hSw
    try dsimp only at hSw
    go_simp
    try exact rfl
  try simp only [Act.put, List.setIfInBounds_toArray, List.set_cons_zero, List.set_cons_succ]
  refine wpAnyH_take (i := 2) (oi := { dst := some 6, op := Op.fieldAddr 58 (Operand.tmp 5) 0, type := 0, pos := _, after := _, guard := none }) (v := ?_) rfl (by kernel_rfl) (by kernel_rfl) (by kernel_rfl) (fun _ _ _ h => h) (Or.inl ⟨rfl, ?_⟩) hHeld ?_
  rotate_left
  · intro w hSw
    try dsimp only at hSw
    go_simp
    try exact rfl
  try simp only [Act.put, List.setIfInBounds_toArray, List.set_cons_zero, List.set_cons_succ]
  refine wpAnyH_take (i := 3) (oi := { dst := some 7, op := Op.load 26 (Operand.tmp 6), type := 26, pos := _, after := _, guard := none }) (v := ?_) rfl (by kernel_rfl) (by kernel_rfl) (by kernel_rfl) (fun _ _ _ h => h) (Or.inl ⟨rfl, ?_⟩) hHeld ?_
  rotate_left
  · intro w hSw
    try dsimp only at hSw
    go_simp
    try exact rfl
  try simp only [Act.put, List.setIfInBounds_toArray, List.set_cons_zero, List.set_cons_succ]
  refine wpAnyH_take (i := 4) (oi := { dst := some 8, op := Op.move (Operand.tmp 0), type := 78, pos := _, after := _, guard := none }) (v := ?_) rfl (by kernel_rfl) (by kernel_rfl) (by kernel_rfl) (fun _ _ _ h => h) (Or.inl ⟨rfl, ?_⟩) hHeld ?_
  rotate_left
  · intro w hSw
    try dsimp only at hSw
    go_simp
    try exact rfl
  try simp only [Act.put, List.setIfInBounds_toArray, List.set_cons_zero, List.set_cons_succ]
  refine wpAnyH_take (i := 5) (oi := { dst := some 9, op := Op.nilCheck (Operand.tmp 8), type := 0, pos := _, after := _, guard := none }) (v := ?_) rfl (by kernel_rfl) (by kernel_rfl) (by kernel_rfl) (fun _ _ _ h => h) (Or.inl ⟨rfl, ?_⟩) hHeld ?_
  rotate_left
  · intro w hSw
    try dsimp only at hSw
    go_simp
    try exact rfl
  try simp only [Act.put, List.setIfInBounds_toArray, List.set_cons_zero, List.set_cons_succ]
  refine wpAnyH_take (i := 6) (oi := { dst := some 10, op := Op.fieldAddr 58 (Operand.tmp 9) 0, type := 0, pos := _, after := _, guard := none }) (v := ?_) rfl (by kernel_rfl) (by kernel_rfl) (by kernel_rfl) (fun _ _ _ h => h) (Or.inl ⟨rfl, ?_⟩) hHeld ?_
  rotate_left
  · intro w hSw
    try dsimp only at hSw
    go_simp
    try exact rfl
  try simp only [Act.put, List.setIfInBounds_toArray, List.set_cons_zero, List.set_cons_succ]
  refine wpAnyH_take (i := 7) (oi := { dst := some 11, op := Op.load 26 (Operand.tmp 10), type := 26, pos := _, after := _, guard := none }) (v := ?_) rfl (by kernel_rfl) (by kernel_rfl) (by kernel_rfl) (fun _ _ _ h => h) (Or.inl ⟨rfl, ?_⟩) hHeld ?_
  rotate_left
  · intro w hSw
    try dsimp only at hSw
    go_simp
    try exact rfl
  try simp only [Act.put, List.setIfInBounds_toArray, List.set_cons_zero, List.set_cons_succ]
  refine wpAnyH_take (i := 8) (oi := { dst := some 12, op := Op.call { callee := Go.Callee.builtin Go.Builtin.len, args := #[Operand.tmp 11], argTypes := #[26] }, type := 3, pos := _, after := _, guard := none }) (v := ?_) rfl (by kernel_rfl) (by kernel_rfl) (by kernel_rfl) (fun _ _ _ h => h) (Or.inl ⟨rfl, ?_⟩) hHeld ?_
  rotate_left
  · intro w hSw
    try dsimp only at hSw
    go_simp
    try exact rfl
  try simp only [Act.put, List.setIfInBounds_toArray, List.set_cons_zero, List.set_cons_succ]
  refine wpAnyH_take (i := 9) (oi := { dst := some 13, op := Op.binOp Go.BinOp.sub 3 (Operand.tmp 12) (Operand.const (Go.Value.int Go.IntKind.i64 1)) 3, type := 3, pos := _, after := _, guard := none }) (v := ?_) rfl (by kernel_rfl) (by kernel_rfl) (by kernel_rfl) (fun _ _ _ h => h) (Or.inl ⟨rfl, ?_⟩) hHeld ?_
  rotate_left
  · intro w hSw
    try dsimp only at hSw
    go_simp
    try exact rfl
  try simp only [Act.put, List.setIfInBounds_toArray, List.set_cons_zero, List.set_cons_succ]
  refine wpAnyH_take (i := 10) (oi := { dst := some 14, op := Op.indexAddr 26 (Operand.tmp 7) (Operand.tmp 13), type := 0, pos := _, after := _, guard := none }) (v := ?_) rfl (by kernel_rfl) (by kernel_rfl) (by kernel_rfl) (fun _ _ _ h => h) (Or.inl ⟨rfl, ?_⟩) hHeld ?_
  rotate_left
  · intro w hSw
    try dsimp only at hSw
    go_simp
    try exact rfl
  try simp only [Act.put, List.setIfInBounds_toArray, List.set_cons_zero, List.set_cons_succ]
  refine wpAnyH_take (i := 11) (oi := { dst := some 15, op := Op.load 35 (Operand.tmp 14), type := 35, pos := _, after := _, guard := none }) (v := ?_) rfl (by kernel_rfl) (by kernel_rfl) (by kernel_rfl) (fun _ _ _ h => h) (Or.inl ⟨rfl, ?_⟩) hHeld ?_
  rotate_left
  · intro w hSw
    try dsimp only at hSw
    go_simp
    try exact rfl
  try simp only [Act.put, List.setIfInBounds_toArray, List.set_cons_zero, List.set_cons_succ]
  refine wpAnyH_ready (rs := [12]) (by kernel_rfl) (by simp) ?_
  refine AllReadyH.cons (o := { dst := some 3, op := Op.alloc 35, type := 0, pos := _, after := _, guard := none }) rfl (fun K hK => ?_) AllReadyH.nil
  rw [if_pos (wanted_none rfl)]
  go_simp
  have hb2 : Below w.heap.size w (wd.alloc (.cells #[.int .i64 0, .int .u16 0, .int .i64 0, .int .u8 0, .int .u8 0, .int .u8 0, .int .u8 0, .int .u8 0, .int .u8 0, .int .u8 0, .int .u8 0, .bool false, .int .i64 0] 35)) := hHeld.trans ((below_alloc (Below.refl _ _) _).mono hHeld.size)
  have hnw := World.alloc_heap_new wd (.cells #[.int .i64 0, .int .u16 0, .int .i64 0, .int .u8 0, .int .u8 0, .int .u8 0, .int .u8 0, .int .u8 0, .int .u8 0, .int .u8 0, .int .u8 0, .bool false, .int .i64 0] 35)
  have hgb := Aside0.mk hHeld.size
  refine hK.out _ _ hb2 (fun hHeld2 => ?_)
  clear hK K hHeld
  generalize wd.heap.size = t at hnw hgb hb2 hHeld2 ⊢
  generalize wd.alloc (.cells #[.int .i64 0, .int .u16 0, .int .i64 0, .int .u8 0, .int .u8 0, .int .u8 0, .int .u8 0, .int .u8 0, .int .u8 0, .int .u8 0, .int .u8 0, .bool false, .int .i64 0] 35) = W1 at hnw hb2 hHeld2 ⊢
  have hth : Aside0 (W1.there t 0 13) := ⟨fun j hj => ⟨by rw [blk_cell hnw, Option.isSome_iff_exists]; exact ⟨_, Array.getElem?_eq_getElem (by simp; omega)⟩, blk_frozen hnw _⟩⟩
  have hw2 := row13 hnw (.int .i64 x.nd) (.int .u16 x.id) (.int .i64 x.len) (.int .u8 x.x0) (.int .u8 x.x1) (.int .u8 x.x2) (.int .u8 x.x3) (.int .u8 x.x4) (.int .u8 x.x5) (.int .u8 x.x6) (.int .u8 x.x7) (.bool x.rem) (.int .i64 x.num)
  have hb3 : Below w.heap.size w (W1.setCells t 0 [.int .i64 x.nd, .int .u16 x.id, .int .i64 x.len, .int .u8 x.x0, .int .u8 x.x1, .int .u8 x.x2, .int .u8 x.x3, .int .u8 x.x4, .int .u8 x.x5, .int .u8 x.x6, .int .u8 x.x7, .bool x.rem, .int .i64 x.num]) := hb2.trans (below_cells hgb.out _ _ (Below.refl _ _))
  refine wpAnyH_ready (rs := [13]) (by kernel_rfl) (by simp) ?_
  refine AllReadyH.cons (o := { dst := none, op := Op.store 35 (Operand.tmp 3) (Operand.tmp 15), type := 0, pos := _, after := _, guard := none }) rfl (fun K hK => ?_) AllReadyH.nil
  rw [if_pos (wanted_none rfl)]
  refine wp_store_mid 35 (Operand.tmp 3) (Operand.tmp 15) ?s1 t 0 #[.int .i64 x.nd, .int .u16 x.id, .int .i64 x.len, .int .u8 x.x0, .int .u8 x.x1, .int .u8 x.x2, .int .u8 x.x3, .int .u8 x.x4, .int .u8 x.x5, .int .u8 x.x6, .int .u8 x.x7, .bool x.rem, .int .i64 x.num] ?s2 ?s3 hth.out size_sn (all_oneCell_toArray one1.out) ?_
  case s1 => rfl
  case s2 => rfl
  case s3 => rfl
  refine hK.out _ _ hb3 (fun hHeld3 => ?_)
  clear hK K hHeld2
  refine wpAnyH_done (by kernel_rfl) ?_ _
  have hw3 : (W1.setCells t 0 [.int .i64 x.nd, .int .u16 x.id, .int .i64 x.len, .int .u8 x.x0, .int .u8 x.x1, .int .u8 x.x2, .int .u8 x.x3, .int .u8 x.x4, .int .u8 x.x5, .int .u8 x.x6, .int .u8 x.x7, .bool x.rem, .int .i64 x.num]).heap[t]? = some (.cells x.cells.toArray 35 (0, 0)) := hw2
  clear hw2 hnw hb2 hth hHeld3
  generalize W1.setCells t 0 [.int .i64 x.nd, .int .u16 x.id, .int .i64 x.len, .int .u8 x.x0, .int .u8 x.x1, .int .u8 x.x2, .int .u8 x.x3, .int .u8 x.x4, .int .u8 x.x5, .int .u8 x.x6, .int .u8 x.x7, .bool x.rem, .int .i64 x.num] = W3 at hw3 hb3 ⊢
  have HW3 := Aside0.mk hw3
  have HB3 := Aside0.mk hb3
  clear hw3 a0 a1 a2 a3 a4 a5 a6 a7 a8 a9 a10 a11 a12
  go_wp2_with (fail)
  have hBD : Below w.heap.size w W3.drew := hb3.trans (below_drew (Below.refl _ _))
  have hBW := Aside0.mk (show Below W3.heap.size W3 W3.drew from below_drew (Below.refl _ _))
  refine wp_region_last_drew (S := fun Z => Below w.heap.size w Z) (ds := [14]) (by kernel_rfl) hBD (fun hHeld => ?_)
  clear hBD hb3
  generalize W3.drew = wd at hHeld hBW ⊢
  refine wpAnyLast_take (i := 0) (oi := { dst := some 16, op := Op.move (Operand.tmp 0), type := 78, pos := _, after := _, guard := none }) (v := ?_) rfl (by kernel_rfl) (by kernel_rfl) (by kernel_rfl) (by kernel_rfl) (by kernel_rfl) (fun _ _ _ h => h) (Or.inl ⟨rfl, ?_⟩) hHeld ?_
  rotate_left
  · intro w hSw
    try dsimp only at hSw
    go_simp
    try exact rfl
  try simp only [Act.put, List.setIfInBounds_toArray, List.set_cons_zero, List.set_cons_succ]
  refine wpAnyLast_take (i := 1) (oi := { dst := some 17, op := Op.move (Operand.tmp 0), type := 78, pos := _, after := _, guard := none }) (v := ?_) rfl (by kernel_rfl) (by kernel_rfl) (by kernel_rfl) (by kernel_rfl) (by kernel_rfl) (fun _ _ _ h => h) (Or.inl ⟨rfl, ?_⟩) hHeld ?_
  rotate_left
  · intro w hSw
    try dsimp only at hSw
    go_simp
    try exact rfl
  try simp only [Act.put, List.setIfInBounds_toArray, List.set_cons_zero, List.set_cons_succ]
  refine wpAnyLast_take (i := 2) (oi := { dst := some 18, op := Op.nilCheck (Operand.tmp 17), type := 0, pos := _, after := _, guard := none }) (v := ?_) rfl (by kernel_rfl) (by kernel_rfl) (by kernel_rfl) (by kernel_rfl) (by kernel_rfl) (fun _ _ _ h => h) (Or.inl ⟨rfl, ?_⟩) hHeld ?_
  rotate_left
  · intro w hSw
    try dsimp only at hSw
    go_simp
    try exact rfl
  try simp only [Act.put, List.setIfInBounds_toArray, List.set_cons_zero, List.set_cons_succ]
  refine wpAnyLast_take (i := 3) (oi := { dst := some 19, op := Op.fieldAddr 58 (Operand.tmp 18) 0, type := 0, pos := _, after := _, guard := none }) (v := ?_) rfl (by kernel_rfl) (by kernel_rfl) (by kernel_rfl) (by kernel_rfl) (by kernel_rfl) (fun _ _ _ h => h) (Or.inl ⟨rfl, ?_⟩) hHeld ?_
  rotate_left
  · intro w hSw
    try dsimp only at hSw
    go_simp
    try exact rfl
  try simp only [Act.put, List.setIfInBounds_toArray, List.set_cons_zero, List.set_cons_succ]
  refine wpAnyLast_take (i := 4) (oi := { dst := some 20, op := Op.load 26 (Operand.tmp 19), type := 26, pos := _, after := _, guard := none }) (v := ?_) rfl (by kernel_rfl) (by kernel_rfl) (by kernel_rfl) (by kernel_rfl) (by kernel_rfl) (fun _ _ _ h => h) (Or.inl ⟨rfl, ?_⟩) hHeld ?_
  rotate_left
  · intro w hSw
    try dsimp only at hSw
    go_simp
    try exact rfl
  try simp only [Act.put, List.setIfInBounds_toArray, List.set_cons_zero, List.set_cons_succ]
  refine wpAnyLast_take (i := 5) (oi := { dst := some 21, op := Op.move (Operand.tmp 0), type := 78, pos := _, after := _, guard := none }) (v := ?_) rfl (by kernel_rfl) (by kernel_rfl) (by kernel_rfl) (by kernel_rfl) (by kernel_rfl) (fun _ _ _ h => h) (Or.inl ⟨rfl, ?_⟩) hHeld ?_
  rotate_left
  · intro w hSw
    try dsimp only at hSw
    go_simp
    try exact rfl
  try simp only [Act.put, List.setIfInBounds_toArray, List.set_cons_zero, List.set_cons_succ]
  refine wpAnyLast_take (i := 6) (oi := { dst := some 22, op := Op.nilCheck (Operand.tmp 21), type := 0, pos := _, after := _, guard := none }) (v := ?_) rfl (by kernel_rfl) (by kernel_rfl) (by kernel_rfl) (by kernel_rfl) (by kernel_rfl) (fun _ _ _ h => h) (Or.inl ⟨rfl, ?_⟩) hHeld ?_
  rotate_left
  · intro w hSw
    try dsimp only at hSw
    go_simp
    try exact rfl
  try simp only [Act.put, List.setIfInBounds_toArray, List.set_cons_zero, List.set_cons_succ]
  refine wpAnyLast_take (i := 7) (oi := { dst := some 23, op := Op.fieldAddr 58 (Operand.tmp 22) 0, type := 0, pos := _, after := _, guard := none }) (v := ?_) rfl (by kernel_rfl) (by kernel_rfl) (by kernel_rfl) (by kernel_rfl) (by kernel_rfl) (fun _ _ _ h => h) (Or.inl ⟨rfl, ?_⟩) hHeld ?_
  rotate_left
  · intro w hSw
    try dsimp only at hSw
    go_simp
    try exact rfl
  try simp only [Act.put, List.setIfInBounds_toArray, List.set_cons_zero, List.set_cons_succ]
  refine wpAnyLast_take (i := 8) (oi := { dst := some 24, op := Op.load 26 (Operand.tmp 23), type := 26, pos := _, after := _, guard := none }) (v := ?_) rfl (by kernel_rfl) (by kernel_rfl) (by kernel_rfl) (by kernel_rfl) (by kernel_rfl) (fun _ _ _ h => h) (Or.inl ⟨rfl, ?_⟩) hHeld ?_
  rotate_left
  · intro w hSw
    try dsimp only at hSw
    go_simp
    try exact rfl
  try simp only [Act.put, List.setIfInBounds_toArray, List.set_cons_zero, List.set_cons_succ]
  refine wpAnyLast_take (i := 9) (oi := { dst := some 25, op := Op.call { callee := Go.Callee.builtin Go.Builtin.len, args := #[Operand.tmp 24], argTypes := #[26] }, type := 3, pos := _, after := _, guard := none }) (v := ?_) rfl (by kernel_rfl) (by kernel_rfl) (by kernel_rfl) (by kernel_rfl) (by kernel_rfl) (fun _ _ _ h => h) (Or.inl ⟨rfl, ?_⟩) hHeld ?_
  rotate_left
  · intro w hSw
    try dsimp only at hSw
    go_simp
    try exact rfl
  try simp only [Act.put, List.setIfInBounds_toArray, List.set_cons_zero, List.set_cons_succ]
  refine wpAnyLast_take (i := 10) (oi := { dst := some 26, op := Op.binOp Go.BinOp.sub 3 (Operand.tmp 25) (Operand.const (Go.Value.int Go.IntKind.i64 1)) 3, type := 3, pos := _, after := _, guard := none }) (v := ?_) rfl (by kernel_rfl) (by kernel_rfl) (by kernel_rfl) (by kernel_rfl) (by kernel_rfl) (fun _ _ _ h => h) (Or.inl ⟨rfl, ?_⟩) hHeld ?_
  rotate_left
  · intro w hSw
    try dsimp only at hSw
    go_simp
    try exact rfl
  try simp only [Act.put, List.setIfInBounds_toArray, List.set_cons_zero, List.set_cons_succ]
  refine wpAnyLast_take (i := 11) (oi := { dst := some 27, op := Op.slice 26 (Operand.tmp 20) none (some (Operand.tmp 26)) none, type := 26, pos := _, after := _, guard := none }) (v := ?_) rfl (by kernel_rfl) (by kernel_rfl) (by kernel_rfl) (by kernel_rfl) (by kernel_rfl) (fun _ _ _ h => h) (Or.inl ⟨rfl, ?_⟩) hHeld ?_
  rotate_left
  · intro w hSw
    try dsimp only at hSw
    go_simp
    try exact rfl
  try simp only [Act.put, List.setIfInBounds_toArray, List.set_cons_zero, List.set_cons_succ]
  refine wpAnyLast_take (i := 12) (oi := { dst := some 28, op := Op.nilCheck (Operand.tmp 16), type := 0, pos := _, after := _, guard := none }) (v := ?_) rfl (by kernel_rfl) (by kernel_rfl) (by kernel_rfl) (by kernel_rfl) (by kernel_rfl) (fun _ _ _ h => h) (Or.inl ⟨rfl, ?_⟩) hHeld ?_
  rotate_left
  · intro w hSw
    try dsimp only at hSw
    go_simp
    try exact rfl
  try simp only [Act.put, List.setIfInBounds_toArray, List.set_cons_zero, List.set_cons_succ]
  refine wpAnyLast_take (i := 13) (oi := { dst := some 29, op := Op.fieldAddr 58 (Operand.tmp 28) 0, type := 0, pos := _, after := _, guard := none }) (v := ?_) rfl (by kernel_rfl) (by kernel_rfl) (by kernel_rfl) (by kernel_rfl) (by kernel_rfl) (fun _ _ _ h => h) (Or.inl ⟨rfl, ?_⟩) hHeld ?_
  rotate_left
  · intro w hSw
    try dsimp only at hSw
    go_simp
    try exact rfl
  try simp only [Act.put, List.setIfInBounds_toArray, List.set_cons_zero, List.set_cons_succ]
  have hbd := (HH.out wd hHeld).blk
  have z0 : wd.cell? ⟨g, 0, none⟩ = some (.slice (some ⟨gb, 0, none⟩) (n + 1) c) := blk_cell hbd 0
  have zf : wd.frozen? ⟨g, 0, none⟩ = false := blk_frozen hbd 0
  have HBD := Aside0.mk hbd
  clear hbd
  refine wpAnyLast_ready (rs := [14]) (by kernel_rfl) (by simp) ?_
  refine AllReadyL.cons_last (o := { dst := none, op := Op.store 26 (Operand.tmp 29) (Operand.tmp 27), type := 0, pos := _, after := _, guard := none }) rfl (by decide) (fun K hK => ?_) AllReadyL.nil
  rw [if_pos (wanted_none rfl)]
  go_simp
  refine hK.out _ _ ?_
  clear hK K
  refine wpAnyLast_done (by kernel_rfl) ?_ _
  have hR : Kd.R kSn 35 wd 0 (fun k => k ≠ g) (.slice (some ⟨gb, 0, none⟩) n c) l := by
    have h1 := R_cut (HH.out wd hHeld).row
    rwa [HN.out] at h1
  have hbus := Aside0.mk (bus_put HBD.out hR)
  have htg : t ≠ g := by have h1 := hgb.out; have h2 := HG.out; omega
  have htd : wd.heap[t]? = some (.cells x.cells.toArray 35 (0, 0)) := blk_below HW3.out hBW.out
  have ht4 := Aside0.mk (((Fr.setCell (M := fun k => k = g) wd ⟨g, 0, none⟩ (.slice (some ⟨gb, 0, none⟩) n c) (Or.inl rfl)).block t (Array.getElem?_eq_some_iff.1 htd).1 htg).trans htd)
  have hturn := Aside0.mk (show Turn g (.slice (some ⟨gb, 0, none⟩) (n + 1) c) (.slice (some ⟨gb, 0, none⟩) n c) w (wd.setCell ⟨g, 0, none⟩ (.slice (some ⟨gb, 0, none⟩) n c)) from
    ⟨(Fr.of_below hHeld).trans (Fr.setCell wd ⟨g, 0, none⟩ _ (.inl (.inl rfl))), fun k hk => .inl hk⟩)
  clear hR htg htd z0 zf hHeld u0
  generalize wd.setCell ⟨g, 0, none⟩ (.slice (some ⟨gb, 0, none⟩) n c) = W4 at hbus ht4 hturn ⊢
  obtain ⟨f0, f1, f2, f3, f4, f5, f6, f7, f8, f9, f10, f11, f12, f13⟩ := sn_at ht4.out
  go_wp2_with (fail)
  go_ret
  exact ⟨rfl, _, hbus.out, hturn.out⟩
end Go.Proofs.Ytnjmohdfnicpdaa.Bus
