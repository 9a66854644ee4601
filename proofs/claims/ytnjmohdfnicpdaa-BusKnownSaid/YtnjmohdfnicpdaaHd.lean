/- Swap of the bus's list (printed by gen_hd.py). -/
import Derived.Test.YtnjmohdfnicpdaaHc
namespace Go.Proofs.Ytnjmohdfnicpdaa.Bus
open Go.RowKit Go.Shelf Go.Lib Go.Sort Go.Proofs.Ytnjmohdfnicpdaa.Frm Go.Proofs.Ytnjmohdfnicpdaa.Rng Go.Proofs.YtnjmohdfnicpdaaW.PrintWords Go.Proofs.YtnjmohdfnicpdaaW.PrintMore Go.Proofs.YtnjmohdfnicpdaaW.PrintLast

theorem wanted_none {o : Oper} {y : Nat → Option Bool} (h : o.guard = none) : Region.wanted o y = true := by
  unfold Region.wanted
  rw [h]
theorem any_take {P : Program} {ops : Array Oper} {Q : Exit → Act → World → Prop} {md : Region.Mode} {S : World → Prop} {ds : List Nat} {i : Nat} {oi : Oper} {v : Value} {fuel : Nat} {listed : Array Bool} {a : Act} {w : World} (hi : ops[i]? = some oi)
    (hs : Region.noSelect ops = true) (hf : Region.free md ops listed i = true) (hr : (Region.ready md ops listed).contains i = true)
    (hQ : ∀ c a w, Q (.panic c) (a.put oi.dst v) w → Q (.panic c) a w) (hy : Yields P ops oi v a)
    (h : wpAnyLast P md ops Q S ds fuel (listed.setIfInBounds i true) (a.put oi.dst v) w) : wpAnyLast P md ops Q S ds (fuel + 1) listed a w :=
  wpAnyLast_any hi (Region.noSelect_spec hs) hQ fuel listed a w (Region.free_spec hi hf) (by simpa using hr) hy h
set_option maxHeartbeats 4000000 in
set_option maxRecDepth 100000 in
theorem swap_any (w : World) (g : Nat) (v : Value) (l : List Sn) (N : Int) (i j : Nat) (h : BusAt w g v l N) (hi : i < l.length) (hj : j < l.length) (hl : l.length ≤ 100000) :
    Calls Try.prog 78 #[.pointer (some ⟨g, 0, none⟩), .int .i64 i, .int .i64 j] w fun e w' => e = .returned (.tuple #[]) ∧ BusAt w' g v (swL l i j) N ∧ Fr (fun k => v.ownBlock = some k) w w' := by
  obtain ⟨gb, c, cur, rfl, hne, hb, hlc, _⟩ := h.own (by omega)
  have hd := h.drew
  have hS := Aside0.mk (show BusAt ((w.drew.setCells gb (i * 13) (nth l j).cells).setCells gb (j * 13) (nth l i).cells) g (.slice (some ⟨gb, 0, none⟩) l.length c) (swL l i j) N ∧ Fr (fun k => (Value.slice (some ⟨gb, 0, none⟩) l.length c).ownBlock = some k) w ((w.drew.setCells gb (i * 13) (nth l j).cells).setCells gb (j * 13) (nth l i).cells) from
    ⟨(hd.set hi (nth l j)).set (by simpa using hj) (nth l i), by
      have h1 := ((Fr.drew (fun k => k = gb) w).trans (fr_setCells gb (nth l j).cells (i * 13) w.drew)).trans (fr_setCells gb (nth l i).cells (j * 13) _)
      exact h1.mono (fun k hk => by rw [hk]; rfl)⟩)
  have hT1 : Aside0 (w.drew.there gb (i * 13) 13) := ⟨hd.there hi⟩
  have hT2 : Aside0 ((w.drew.setCells gb (i * 13) (nth l j).cells).there gb (j * 13) 13) := ⟨(hd.set hi (nth l j)).there (by simpa using hj)⟩
  have hc0 : w.drew.cell? ⟨g, 0, none⟩ = some (.slice (some ⟨gb, 0, none⟩) l.length c) := hd.cell0
  have ci := hd.cells hi
  have cj := hd.cells hj
  generalize nth l i = si at hS hT1 hT2 ci cj
  generalize nth l j = sj at hS hT1 hT2 ci cj
  obtain ⟨A0, A1, A2, A3, A4, A5, A6, A7, A8, A9, A10, A11, A12⟩ := ci
  obtain ⟨B0, B1, B2, B3, B4, B5, B6, B7, B8, B9, B10, B11, B12⟩ := cj
  have ei : ((i : Int)).toNat = i := by omega
  have ej : ((j : Int)).toNat = j := by omega
  have bi : (i : Int) < (l.length : Int) := by omega
  have bj : (j : Int) < (l.length : Int) := by omega
  have one1 := Aside0.mk sj.cells_one
  have one2 := Aside0.mk si.cells_one
  change Aside0 (∀ v ∈ ([.int .i64 sj.nd, .int .u16 sj.id, .int .i64 sj.len, .int .u8 sj.x0, .int .u8 sj.x1, .int .u8 sj.x2, .int .u8 sj.x3, .int .u8 sj.x4, .int .u8 sj.x5, .int .u8 sj.x6, .int .u8 sj.x7, .bool sj.rem, .int .i64 sj.num] : List Value), v.oneCell' = true) at one1
  change Aside0 (∀ v ∈ ([.int .i64 si.nd, .int .u16 si.id, .int .i64 si.len, .int .u8 si.x0, .int .u8 si.x1, .int .u8 si.x2, .int .u8 si.x3, .int .u8 si.x4, .int .u8 si.x5, .int .u8 si.x6, .int .u8 si.x7, .bool si.rem, .int .i64 si.num] : List Value), v.oneCell' = true) at one2
  change Aside0 ((w.drew.setCells gb (i * 13) [.int .i64 sj.nd, .int .u16 sj.id, .int .i64 sj.len, .int .u8 sj.x0, .int .u8 sj.x1, .int .u8 sj.x2, .int .u8 sj.x3, .int .u8 sj.x4, .int .u8 sj.x5, .int .u8 sj.x6, .int .u8 sj.x7, .bool sj.rem, .int .i64 sj.num]).there gb (j * 13) 13) at hT2
  change Aside0 (BusAt ((w.drew.setCells gb (i * 13) [.int .i64 sj.nd, .int .u16 sj.id, .int .i64 sj.len, .int .u8 sj.x0, .int .u8 sj.x1, .int .u8 sj.x2, .int .u8 sj.x3, .int .u8 sj.x4, .int .u8 sj.x5, .int .u8 sj.x6, .int .u8 sj.x7, .bool sj.rem, .int .i64 sj.num]).setCells gb (j * 13) [.int .i64 si.nd, .int .u16 si.id, .int .i64 si.len, .int .u8 si.x0, .int .u8 si.x1, .int .u8 si.x2, .int .u8 si.x3, .int .u8 si.x4, .int .u8 si.x5, .int .u8 si.x6, .int .u8 si.x7, .bool si.rem, .int .i64 si.num]) g (.slice (some ⟨gb, 0, none⟩) l.length c) (swL l i j) N ∧ Fr (fun k => (Value.slice (some ⟨gb, 0, none⟩) l.length c).ownBlock = some k) w ((w.drew.setCells gb (i * 13) [.int .i64 sj.nd, .int .u16 sj.id, .int .i64 sj.len, .int .u8 sj.x0, .int .u8 sj.x1, .int .u8 sj.x2, .int .u8 sj.x3, .int .u8 sj.x4, .int .u8 sj.x5, .int .u8 sj.x6, .int .u8 sj.x7, .bool sj.rem, .int .i64 sj.num]).setCells gb (j * 13) [.int .i64 si.nd, .int .u16 si.id, .int .i64 si.len, .int .u8 si.x0, .int .u8 si.x1, .int .u8 si.x2, .int .u8 si.x3, .int .u8 si.x4, .int .u8 si.x5, .int .u8 si.x6, .int .u8 si.x7, .bool si.rem, .int .i64 si.num])) at hS
  clear hd hb h
  go_enter Try.func78, Try.ntmps78
  go_wp2_with (fail)
  refine wp_region_last_drew (S := fun X => X = w.drew) (ds := [25, 26, 27]) (by kernel_rfl) rfl (fun hHeld => ?_)
  refine wpAnyLast_take (i := 0) (oi := { dst := some 6, op := Op.move (Operand.tmp 0), type := 78, pos := _, after := _, guard := none }) (v := ?_) rfl (by kernel_rfl) (by kernel_rfl) (by kernel_rfl) (by kernel_rfl) (by kernel_rfl) (fun _ _ _ h => h) (Or.inl ⟨rfl, ?_⟩) hHeld ?_
  rotate_left
  · rintro w rfl
    go_simp
    try exact rfl
  try simp only [Act.put, List.setIfInBounds_toArray, List.set_cons_zero, List.set_cons_succ]
  refine wpAnyLast_take (i := 1) (oi := { dst := some 7, op := Op.nilCheck (Operand.tmp 6), type := 0, pos := _, after := _, guard := none }) (v := ?_) rfl (by kernel_rfl) (by kernel_rfl) (by kernel_rfl) (by kernel_rfl) (by kernel_rfl) (fun _ _ _ h => h) (Or.inl ⟨rfl, ?_⟩) hHeld ?_
  rotate_left
  · rintro w rfl
    go_simp
    try exact rfl
  try simp only [Act.put, List.setIfInBounds_toArray, List.set_cons_zero, List.set_cons_succ]
  refine wpAnyLast_take (i := 2) (oi := { dst := some 8, op := Op.fieldAddr 58 (Operand.tmp 7) 0, type := 0, pos := _, after := _, guard := none }) (v := ?_) rfl (by kernel_rfl) (by kernel_rfl) (by kernel_rfl) (by kernel_rfl) (by kernel_rfl) (fun _ _ _ h => h) (Or.inl ⟨rfl, ?_⟩) hHeld ?_
  rotate_left
  · rintro w rfl
    go_simp
    try exact rfl
  try simp only [Act.put, List.setIfInBounds_toArray, List.set_cons_zero, List.set_cons_succ]
  refine wpAnyLast_take (i := 3) (oi := { dst := some 9, op := Op.load 26 (Operand.tmp 8), type := 26, pos := _, after := _, guard := none }) (v := ?_) rfl (by kernel_rfl) (by kernel_rfl) (by kernel_rfl) (by kernel_rfl) (by kernel_rfl) (fun _ _ _ h => h) (Or.inl ⟨rfl, ?_⟩) hHeld ?_
  rotate_left
  · rintro w rfl
    go_simp
    try exact rfl
  try simp only [Act.put, List.setIfInBounds_toArray, List.set_cons_zero, List.set_cons_succ]
  refine wpAnyLast_take (i := 4) (oi := { dst := some 10, op := Op.move (Operand.tmp 1), type := 3, pos := _, after := _, guard := none }) (v := ?_) rfl (by kernel_rfl) (by kernel_rfl) (by kernel_rfl) (by kernel_rfl) (by kernel_rfl) (fun _ _ _ h => h) (Or.inl ⟨rfl, ?_⟩) hHeld ?_
  rotate_left
  · rintro w rfl
    go_simp
    try exact rfl
  try simp only [Act.put, List.setIfInBounds_toArray, List.set_cons_zero, List.set_cons_succ]
  refine wpAnyLast_take (i := 5) (oi := { dst := some 11, op := Op.move (Operand.tmp 0), type := 78, pos := _, after := _, guard := none }) (v := ?_) rfl (by kernel_rfl) (by kernel_rfl) (by kernel_rfl) (by kernel_rfl) (by kernel_rfl) (fun _ _ _ h => h) (Or.inl ⟨rfl, ?_⟩) hHeld ?_
  rotate_left
  · rintro w rfl
    go_simp
    try exact rfl
  try simp only [Act.put, List.setIfInBounds_toArray, List.set_cons_zero, List.set_cons_succ]
  refine wpAnyLast_take (i := 6) (oi := { dst := some 12, op := Op.nilCheck (Operand.tmp 11), type := 0, pos := _, after := _, guard := none }) (v := ?_) rfl (by kernel_rfl) (by kernel_rfl) (by kernel_rfl) (by kernel_rfl) (by kernel_rfl) (fun _ _ _ h => h) (Or.inl ⟨rfl, ?_⟩) hHeld ?_
  rotate_left
  · rintro w rfl
    go_simp
    try exact rfl
  try simp only [Act.put, List.setIfInBounds_toArray, List.set_cons_zero, List.set_cons_succ]
  refine wpAnyLast_take (i := 7) (oi := { dst := some 13, op := Op.fieldAddr 58 (Operand.tmp 12) 0, type := 0, pos := _, after := _, guard := none }) (v := ?_) rfl (by kernel_rfl) (by kernel_rfl) (by kernel_rfl) (by kernel_rfl) (by kernel_rfl) (fun _ _ _ h => h) (Or.inl ⟨rfl, ?_⟩) hHeld ?_
  rotate_left
  · rintro w rfl
    go_simp
    try exact rfl
  try simp only [Act.put, List.setIfInBounds_toArray, List.set_cons_zero, List.set_cons_succ]
  refine wpAnyLast_take (i := 8) (oi := { dst := some 14, op := Op.load 26 (Operand.tmp 13), type := 26, pos := _, after := _, guard := none }) (v := ?_) rfl (by kernel_rfl) (by kernel_rfl) (by kernel_rfl) (by kernel_rfl) (by kernel_rfl) (fun _ _ _ h => h) (Or.inl ⟨rfl, ?_⟩) hHeld ?_
  rotate_left
  · rintro w rfl
    go_simp
    try exact rfl
  try simp only [Act.put, List.setIfInBounds_toArray, List.set_cons_zero, List.set_cons_succ]
  refine any_take (i := 9) (oi := { dst := some 15, op := Op.move (Operand.tmp 2), type := 3, pos := _, after := _, guard := none }) (v := ?_) rfl (by kernel_rfl) (by kernel_rfl) (by kernel_rfl) (fun _ _ _ h => h) (Or.inl ⟨rfl, ?_⟩) ?_
  rotate_left
  · intro w
    go_simp
    try exact rfl
  try simp only [Act.put, List.setIfInBounds_toArray, List.set_cons_zero, List.set_cons_succ]
  refine wpAnyLast_take (i := 10) (oi := { dst := some 16, op := Op.move (Operand.tmp 0), type := 78, pos := _, after := _, guard := none }) (v := ?_) rfl (by kernel_rfl) (by kernel_rfl) (by kernel_rfl) (by kernel_rfl) (by kernel_rfl) (fun _ _ _ h => h) (Or.inl ⟨rfl, ?_⟩) hHeld ?_
  rotate_left
  · rintro w rfl
    go_simp
    try exact rfl
  try simp only [Act.put, List.setIfInBounds_toArray, List.set_cons_zero, List.set_cons_succ]
  refine wpAnyLast_take (i := 11) (oi := { dst := some 17, op := Op.nilCheck (Operand.tmp 16), type := 0, pos := _, after := _, guard := none }) (v := ?_) rfl (by kernel_rfl) (by kernel_rfl) (by kernel_rfl) (by kernel_rfl) (by kernel_rfl) (fun _ _ _ h => h) (Or.inl ⟨rfl, ?_⟩) hHeld ?_
  rotate_left
  · rintro w rfl
    go_simp
    try exact rfl
  try simp only [Act.put, List.setIfInBounds_toArray, List.set_cons_zero, List.set_cons_succ]
  refine wpAnyLast_take (i := 12) (oi := { dst := some 18, op := Op.fieldAddr 58 (Operand.tmp 17) 0, type := 0, pos := _, after := _, guard := none }) (v := ?_) rfl (by kernel_rfl) (by kernel_rfl) (by kernel_rfl) (by kernel_rfl) (by kernel_rfl) (fun _ _ _ h => h) (Or.inl ⟨rfl, ?_⟩) hHeld ?_
  rotate_left
  · rintro w rfl
    go_simp
    try exact rfl
  try simp only [Act.put, List.setIfInBounds_toArray, List.set_cons_zero, List.set_cons_succ]
  refine wpAnyLast_take (i := 13) (oi := { dst := some 19, op := Op.load 26 (Operand.tmp 18), type := 26, pos := _, after := _, guard := none }) (v := ?_) rfl (by kernel_rfl) (by kernel_rfl) (by kernel_rfl) (by kernel_rfl) (by kernel_rfl) (fun _ _ _ h => h) (Or.inl ⟨rfl, ?_⟩) hHeld ?_
  rotate_left
  · rintro w rfl
    go_simp
    try exact rfl
  try simp only [Act.put, List.setIfInBounds_toArray, List.set_cons_zero, List.set_cons_succ]
  refine wpAnyLast_take (i := 14) (oi := { dst := some 20, op := Op.move (Operand.tmp 2), type := 3, pos := _, after := _, guard := none }) (v := ?_) rfl (by kernel_rfl) (by kernel_rfl) (by kernel_rfl) (by kernel_rfl) (by kernel_rfl) (fun _ _ _ h => h) (Or.inl ⟨rfl, ?_⟩) hHeld ?_
  rotate_left
  · rintro w rfl
    go_simp
    try exact rfl
  try simp only [Act.put, List.setIfInBounds_toArray, List.set_cons_zero, List.set_cons_succ]
  refine wpAnyLast_take (i := 15) (oi := { dst := some 21, op := Op.indexAddr 26 (Operand.tmp 19) (Operand.tmp 20), type := 0, pos := _, after := _, guard := none }) (v := ?_) rfl (by kernel_rfl) (by kernel_rfl) (by kernel_rfl) (by kernel_rfl) (by kernel_rfl) (fun _ _ _ h => h) (Or.inl ⟨rfl, ?_⟩) hHeld ?_
  rotate_left
  · rintro w rfl
    go_simp
    try exact rfl
  try simp only [Act.put, List.setIfInBounds_toArray, List.set_cons_zero, List.set_cons_succ]
  refine wpAnyLast_take (i := 16) (oi := { dst := some 22, op := Op.load 35 (Operand.tmp 21), type := 35, pos := _, after := _, guard := none }) (v := ?_) rfl (by kernel_rfl) (by kernel_rfl) (by kernel_rfl) (by kernel_rfl) (by kernel_rfl) (fun _ _ _ h => h) (Or.inl ⟨rfl, ?_⟩) hHeld ?_
  rotate_left
  · rintro w rfl
    go_simp
    try exact rfl
  try simp only [Act.put, List.setIfInBounds_toArray, List.set_cons_zero, List.set_cons_succ]
  refine wpAnyLast_take (i := 17) (oi := { dst := some 23, op := Op.move (Operand.tmp 0), type := 78, pos := _, after := _, guard := none }) (v := ?_) rfl (by kernel_rfl) (by kernel_rfl) (by kernel_rfl) (by kernel_rfl) (by kernel_rfl) (fun _ _ _ h => h) (Or.inl ⟨rfl, ?_⟩) hHeld ?_
  rotate_left
  · rintro w rfl
    go_simp
    try exact rfl
  try simp only [Act.put, List.setIfInBounds_toArray, List.set_cons_zero, List.set_cons_succ]
  refine wpAnyLast_take (i := 18) (oi := { dst := some 24, op := Op.nilCheck (Operand.tmp 23), type := 0, pos := _, after := _, guard := none }) (v := ?_) rfl (by kernel_rfl) (by kernel_rfl) (by kernel_rfl) (by kernel_rfl) (by kernel_rfl) (fun _ _ _ h => h) (Or.inl ⟨rfl, ?_⟩) hHeld ?_
  rotate_left
  · rintro w rfl
    go_simp
    try exact rfl
  try simp only [Act.put, List.setIfInBounds_toArray, List.set_cons_zero, List.set_cons_succ]
  refine wpAnyLast_take (i := 19) (oi := { dst := some 25, op := Op.fieldAddr 58 (Operand.tmp 24) 0, type := 0, pos := _, after := _, guard := none }) (v := ?_) rfl (by kernel_rfl) (by kernel_rfl) (by kernel_rfl) (by kernel_rfl) (by kernel_rfl) (fun _ _ _ h => h) (Or.inl ⟨rfl, ?_⟩) hHeld ?_
  rotate_left
  · rintro w rfl
    go_simp
    try exact rfl
  try simp only [Act.put, List.setIfInBounds_toArray, List.set_cons_zero, List.set_cons_succ]
  refine wpAnyLast_take (i := 20) (oi := { dst := some 26, op := Op.load 26 (Operand.tmp 25), type := 26, pos := _, after := _, guard := none }) (v := ?_) rfl (by kernel_rfl) (by kernel_rfl) (by kernel_rfl) (by kernel_rfl) (by kernel_rfl) (fun _ _ _ h => h) (Or.inl ⟨rfl, ?_⟩) hHeld ?_
  rotate_left
  · rintro w rfl
    go_simp
    try exact rfl
  try simp only [Act.put, List.setIfInBounds_toArray, List.set_cons_zero, List.set_cons_succ]
  refine wpAnyLast_take (i := 21) (oi := { dst := some 27, op := Op.move (Operand.tmp 1), type := 3, pos := _, after := _, guard := none }) (v := ?_) rfl (by kernel_rfl) (by kernel_rfl) (by kernel_rfl) (by kernel_rfl) (by kernel_rfl) (fun _ _ _ h => h) (Or.inl ⟨rfl, ?_⟩) hHeld ?_
  rotate_left
  · rintro w rfl
    go_simp
    try exact rfl
  try simp only [Act.put, List.setIfInBounds_toArray, List.set_cons_zero, List.set_cons_succ]
  refine wpAnyLast_take (i := 22) (oi := { dst := some 28, op := Op.indexAddr 26 (Operand.tmp 26) (Operand.tmp 27), type := 0, pos := _, after := _, guard := none }) (v := ?_) rfl (by kernel_rfl) (by kernel_rfl) (by kernel_rfl) (by kernel_rfl) (by kernel_rfl) (fun _ _ _ h => h) (Or.inl ⟨rfl, ?_⟩) hHeld ?_
  rotate_left
  · rintro w rfl
    go_simp
    try exact rfl
  try simp only [Act.put, List.setIfInBounds_toArray, List.set_cons_zero, List.set_cons_succ]
  refine wpAnyLast_take (i := 23) (oi := { dst := some 29, op := Op.load 35 (Operand.tmp 28), type := 35, pos := _, after := _, guard := none }) (v := ?_) rfl (by kernel_rfl) (by kernel_rfl) (by kernel_rfl) (by kernel_rfl) (by kernel_rfl) (fun _ _ _ h => h) (Or.inl ⟨rfl, ?_⟩) hHeld ?_
  rotate_left
  · rintro w rfl
    go_simp
    try exact rfl
  try simp only [Act.put, List.setIfInBounds_toArray, List.set_cons_zero, List.set_cons_succ]
  refine wpAnyLast_take (i := 24) (oi := { dst := some 30, op := Op.indexAddr 26 (Operand.tmp 9) (Operand.tmp 10), type := 0, pos := _, after := _, guard := none }) (v := ?_) rfl (by kernel_rfl) (by kernel_rfl) (by kernel_rfl) (by kernel_rfl) (by kernel_rfl) (fun _ _ _ h => h) (Or.inl ⟨rfl, ?_⟩) hHeld ?_
  rotate_left
  · rintro w rfl
    go_simp
    try exact rfl
  try simp only [Act.put, List.setIfInBounds_toArray, List.set_cons_zero, List.set_cons_succ]
  refine wpAnyLast_ready (rs := [25]) (by kernel_rfl) (by simp) ?_
  refine AllReadyL.cons_last (o := { dst := none, op := Op.store 35 (Operand.tmp 30) (Operand.tmp 22), type := 0, pos := _, after := _, guard := none }) rfl (by decide) (fun K hK => ?_) AllReadyL.nil
  rw [if_pos (by rfl)]
  refine wp_store_mid _ _ _ rfl _ _ (List.toArray _) rfl rfl ?_ ?_ (all_oneCell_toArray one1.out) ?_
  · exact hT1.out
  · exact size_sn
  refine hK.out _ _ ?_
  clear hK K
  simp only [Act.put]
  generalize w.drew.setCells gb (i * 13) [.int .i64 sj.nd, .int .u16 sj.id, .int .i64 sj.len, .int .u8 sj.x0, .int .u8 sj.x1, .int .u8 sj.x2, .int .u8 sj.x3, .int .u8 sj.x4, .int .u8 sj.x5, .int .u8 sj.x6, .int .u8 sj.x7, .bool sj.rem, .int .i64 sj.num] = W1 at hT2 hS ⊢
  refine wpAnyLast_ready (rs := [26]) (by kernel_rfl) (by simp) ?_
  refine AllReadyL.cons_last (o := { dst := some 31, op := Op.indexAddr 26 (Operand.tmp 14) (Operand.tmp 15), type := 0, pos := _, after := _, guard := none }) rfl (by decide) (fun K hK => ?_) AllReadyL.nil
  rw [if_pos (by rfl)]
  go_simp
  refine hK.out _ _ ?_
  clear hK K
  try simp only [Act.put, List.setIfInBounds_toArray, List.set_cons_zero, List.set_cons_succ]
  refine (show ∀ n, wpAnyLast _ _ _ _ _ _ (n + 1) _ _ _ from fun n => ?_) 0
  refine wpAnyLast_ready (rs := [27]) (by kernel_rfl) (by simp) ?_
  refine AllReadyL.cons_last (o := { dst := none, op := Op.store 35 (Operand.tmp 31) (Operand.tmp 29), type := 0, pos := _, after := _, guard := none }) rfl ?h2 ?h3 ?h4
  case h2 => decide
  case h4 => exact AllReadyL.nil
  case h3 =>
    intro K hK
    rw [if_pos (wanted_none rfl)]
    refine wp_store_mid 35 (Operand.tmp 31) (Operand.tmp 29) ?s1 gb (j * 13) #[.int .i64 si.nd, .int .u16 si.id, .int .i64 si.len, .int .u8 si.x0, .int .u8 si.x1, .int .u8 si.x2, .int .u8 si.x3, .int .u8 si.x4, .int .u8 si.x5, .int .u8 si.x6, .int .u8 si.x7, .bool si.rem, .int .i64 si.num] ?s2 ?s3 hT2.out size_sn (all_oneCell_toArray one2.out) ?_
    case s1 => rfl
    case s2 => rfl
    case s3 => rfl
    refine hK.out _ _ ?_
    clear hK K
    simp only [Act.put]
    refine wpAnyLast_done (by kernel_rfl) ?_ _
    generalize W1.setCells gb (j * 13) [.int .i64 si.nd, .int .u16 si.id, .int .i64 si.len, .int .u8 si.x0, .int .u8 si.x1, .int .u8 si.x2, .int .u8 si.x3, .int .u8 si.x4, .int .u8 si.x5, .int .u8 si.x6, .int .u8 si.x7, .bool si.rem, .int .i64 si.num] = W2 at hS ⊢
    go_wp2_with (fail)
    go_end0
    exact ⟨rfl, hS.out⟩
end Go.Proofs.Ytnjmohdfnicpdaa.Bus
