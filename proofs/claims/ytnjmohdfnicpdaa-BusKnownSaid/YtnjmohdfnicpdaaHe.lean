/- Push of the bus's list (printed by gen_he.py). -/
import Derived.Test.YtnjmohdfnicpdaaHd
namespace Go.Proofs.Ytnjmohdfnicpdaa.Bus
open Go.RowKit Go.Shelf Go.Lib Go.Sort Go.Proofs.Ytnjmohdfnicpdaa.Frm Go.Proofs.Ytnjmohdfnicpdaa.Rng Go.Proofs.YtnjmohdfnicpdaaW.PrintWords Go.Proofs.YtnjmohdfnicpdaaW.PrintMore Go.Proofs.YtnjmohdfnicpdaaW.PrintLast

/-- What a call turns of a bus: its block, its row's block. -/
def Mv (g : Nat) (v : Value) : Nat → Prop := fun k => k = g ∨ v.ownBlock = some k
structure Turn (g : Nat) (v v' : Value) (w w' : World) : Prop where
  fr : Fr (Mv g v) w w'
  own : ∀ k, v'.ownBlock = some k → v.ownBlock = some k ∨ w.heap.size ≤ k
theorem Turn.refl (g : Nat) (v : Value) (w : World) : Turn g v v w w := ⟨Fr.refl _ _, fun _ hk => .inl hk⟩
theorem Turn.trans {g : Nat} {u v x : Value} {a b c : World} (h : Turn g u v a b) (k : Turn g v x b c) : Turn g u x a c := by
  refine ⟨h.fr.then_ k.fr (fun i hi hm => ?_), fun j hj => ?_⟩
  · rcases hm with hm | hm
    · exact .inl hm
    · rcases h.own i hm with h2 | h2
      · exact .inr h2
      · omega
  · rcases k.own j hj with h2 | h2
    · exact h.own j h2
    · have := h.fr.size
      exact .inr (by omega)
theorem Turn.of_fr {g : Nat} {v : Value} {a b : World} (h : Fr (fun k => v.ownBlock = some k) a b) : Turn g v v a b := ⟨h.mono (fun _ hk => .inr hk), fun _ hk => .inl hk⟩
theorem Turn.grow (g : Nat) (v : Value) (w : World) (n : Nat) (os : Array Obj) : Turn g v v w (Go.Sort.grow (w.drewN n) os) := ⟨fr_grow _ w n os, fun _ hk => .inl hk⟩
theorem keep_g {g : Nat} {w w1 : World} {row : Option Nat} {o : Obj} (h : w.heap[g]? = some o) (hg : w.grownBy w1 row) (hn : row ≠ some g) : w1.heap[g]? = some o :=
  (hg.block g (Array.getElem?_eq_some_iff.1 h).1 (fun e => hn e.symm)).trans h
/-- The row is another one. -/
theorem bus_put {w : World} {g : Nat} {v v1 : Value} {l : List Sn} {N : Int} (hb : w.heap[g]? = some (.cells #[v, .int .i64 N] 62 (0, 0))) (hr : Kd.R kSn 35 w 0 (fun k => k ≠ g) v1 l) : BusAt (w.setCell ⟨g, 0, none⟩ v1) g v1 l N := by
  have hne : ∀ k, v1.ownBlock = some k → k ≠ g := hr.1
  refine ⟨blk_put hb 0 v1 rfl, hr.1, ?_⟩
  obtain ⟨inner, ho, hrp⟩ := hr.2
  exact ⟨inner, own_move ho (fun k hk => (Fr.setCell (M := fun k => k = g) w ⟨g, 0, none⟩ v1 (Or.inl rfl)).block k (own_lt ho k hk) (hne k hk)), hrp⟩
set_option maxHeartbeats 4000000 in
set_option maxRecDepth 100000 in
theorem push_any (w : World) (g : Nat) (v : Value) (l : List Sn) (N : Int) (x : Sn) (h : BusAt w g v l N) (hl : l.length ≤ 100000) :
    Calls Try.prog 77 #[.pointer (some ⟨g, 0, none⟩), .iface 35 (.agg #[.int .i64 x.nd, .int .u16 x.id, .int .i64 x.len, .int .u8 x.x0, .int .u8 x.x1, .int .u8 x.x2, .int .u8 x.x3, .int .u8 x.x4, .int .u8 x.x5, .int .u8 x.x6, .int .u8 x.x7, .bool x.rem, .int .i64 x.num])] w fun e w' => e = .returned (.tuple #[]) ∧ ∃ v', BusAt w' g v' (l ++ [x]) N ∧ Turn g v v' w w' := by
  have hBD : Below w.heap.size w w.drew := below_drew (Below.refl _ _)
  have hd := h.drew
  have HN := Aside0.mk (show v.ownBlock ≠ some g from fun e => h.row.1 g e rfl)
  have HSH := Aside0.mk h.shape
  have HG := Aside0.mk h.lt
  have u0 : ∀ Z, Below w.heap.size w Z → Z.cell? ⟨g, 0, none⟩ = some v := fun Z hZ => (h.fr (Fr.of_below (M := fun _ => False) hZ) (fun h => h) (fun _ _ h => h)).cell0
  have HROW := Aside0.mk hd.row
  have HBLK := Aside0.mk hd.blk
  have HT := Aside0.mk (Turn.grow g v w 1 #[])
  clear h hd
  obtain ⟨A, c, hv, -⟩ := HSH.out
  have HV := Aside0.mk hv
  clear hv HSH
  go_enter Try.func77, Try.ntmps77
  go_wp2_with (fail)
  refine wp_region_last_drew (S := fun Z => Below w.heap.size w Z) (ds := [8, 11]) (by kernel_rfl) hBD (fun hHeld => ?_)
  have HD := Aside0.mk (show Fr (fun _ => False) w w.drew from Fr.drew _ _)
  clear hBD
  generalize w.drew = wd at hHeld HROW HBLK HD ⊢
  refine any_take (i := 0) (oi := { dst := some 4, op := Op.move (Operand.tmp 0), type := 78, pos := _, after := _, guard := none }) (v := ?_) rfl (by kernel_rfl) (by kernel_rfl) (by kernel_rfl) (fun _ _ _ h => h) (Or.inl ⟨rfl, ?_⟩) ?_
  rotate_left
  · intro w
    go_simp
    try exact rfl
  try simp only [Act.put, List.setIfInBounds_toArray, List.set_cons_zero, List.set_cons_succ]
  refine wpAnyLast_take (i := 1) (oi := { dst := some 5, op := Op.move (Operand.tmp 0), type := 78, pos := _, after := _, guard := none }) (v := ?_) rfl (by kernel_rfl) (by kernel_rfl) (by kernel_rfl) (by kernel_rfl) (by kernel_rfl) (fun _ _ _ h => h) (Or.inl ⟨rfl, ?_⟩) hHeld ?_
  rotate_left
  · intro w hSw
    try dsimp only at hSw
    go_simp
    try exact rfl
  try simp only [Act.put, List.setIfInBounds_toArray, List.set_cons_zero, List.set_cons_succ]
  refine wpAnyLast_take (i := 2) (oi := { dst := some 6, op := Op.nilCheck (Operand.tmp 5), type := 0, pos := _, after := _, guard := none }) (v := ?_) rfl (by kernel_rfl) (by kernel_rfl) (by kernel_rfl) (by kernel_rfl) (by kernel_rfl) (fun _ _ _ h => h) (Or.inl ⟨rfl, ?_⟩) hHeld ?_
  rotate_left
  · intro w hSw
    try dsimp only at hSw
    go_simp
    try exact rfl
  try simp only [Act.put, List.setIfInBounds_toArray, List.set_cons_zero, List.set_cons_succ]
  refine wpAnyLast_take (i := 3) (oi := { dst := some 7, op := Op.fieldAddr 58 (Operand.tmp 6) 0, type := 0, pos := _, after := _, guard := none }) (v := ?_) rfl (by kernel_rfl) (by kernel_rfl) (by kernel_rfl) (by kernel_rfl) (by kernel_rfl) (fun _ _ _ h => h) (Or.inl ⟨rfl, ?_⟩) hHeld ?_
  rotate_left
  · intro w hSw
    try dsimp only at hSw
    go_simp
    try exact rfl
  try simp only [Act.put, List.setIfInBounds_toArray, List.set_cons_zero, List.set_cons_succ]
  refine wpAnyLast_take (i := 4) (oi := { dst := some 8, op := Op.load 26 (Operand.tmp 7), type := 26, pos := _, after := _, guard := none }) (v := ?_) rfl (by kernel_rfl) (by kernel_rfl) (by kernel_rfl) (by kernel_rfl) (by kernel_rfl) (fun _ _ _ h => h) (Or.inl ⟨rfl, ?_⟩) hHeld ?_
  rotate_left
  · intro w hSw
    try dsimp only at hSw
    go_simp
    try exact rfl
  try simp only [Act.put, List.setIfInBounds_toArray, List.set_cons_zero, List.set_cons_succ]
  refine wpAnyLast_take (i := 5) (oi := { dst := some 9, op := Op.move (Operand.tmp 1), type := 20, pos := _, after := _, guard := none }) (v := ?_) rfl (by kernel_rfl) (by kernel_rfl) (by kernel_rfl) (by kernel_rfl) (by kernel_rfl) (fun _ _ _ h => h) (Or.inl ⟨rfl, ?_⟩) hHeld ?_
  rotate_left
  · intro w hSw
    try dsimp only at hSw
    go_simp
    try exact rfl
  try simp only [Act.put, List.setIfInBounds_toArray, List.set_cons_zero, List.set_cons_succ]
  refine wpAnyLast_take (i := 6) (oi := { dst := some 10, op := Op.typeAssert (Operand.tmp 9) 20 35 false, type := 35, pos := _, after := _, guard := none }) (v := ?_) rfl (by kernel_rfl) (by kernel_rfl) (by kernel_rfl) (by kernel_rfl) (by kernel_rfl) (fun _ _ _ h => h) (Or.inl ⟨rfl, ?_⟩) hHeld ?_
  rotate_left
  · intro w hSw
    try dsimp only at hSw
    go_simp
    try exact rfl
  try simp only [Act.put, List.setIfInBounds_toArray, List.set_cons_zero, List.set_cons_succ]
  refine wpAnyLast_ready (rs := [7]) (by kernel_rfl) (by simp) ?_
  refine AllReadyL.cons (o := { dst := some 11, op := Op.buildSlice 26 1 #[(0, Operand.tmp 10)], type := 26, pos := _, after := _, guard := none }) rfl (by decide) (fun K hK => ?_) AllReadyL.nil
  rw [if_pos (wanted_none rfl)]
  go_simp
  have hb2 : Below w.heap.size w (wd.alloc (.cells #[.int .i64 x.nd, .int .u16 x.id, .int .i64 x.len, .int .u8 x.x0, .int .u8 x.x1, .int .u8 x.x2, .int .u8 x.x3, .int .u8 x.x4, .int .u8 x.x5, .int .u8 x.x6, .int .u8 x.x7, .bool x.rem, .int .i64 x.num] 35)) := hHeld.trans ((below_alloc (Below.refl _ _) _).mono hHeld.size)
  refine hK.out _ _ hb2 (fun hHeld2 => ?_)
  clear hK K
  try simp only [Act.put, List.setIfInBounds_toArray, List.set_cons_zero, List.set_cons_succ]
  refine wpAnyLast_ready (rs := [8]) (by kernel_rfl) (by simp) ?_
  refine AllReadyL.cons_last (o := { dst := some 12, op := Op.call { callee := Go.Callee.builtin Go.Builtin.append, args := #[Operand.tmp 8, Operand.tmp 11], argTypes := #[26, 26] }, type := 26, pos := _, after := _, guard := none }) rfl (by decide) (fun K hK => ?_) AllReadyL.nil
  refine Kd.R_append_step kSn (w0 := wd) (W := wd) 0 (wanted_none rfl) (.tmp 8) (.tmp 11) 26 35 (.agg #[.int .i64 0, .int .u16 0, .int .i64 0, .int .u8 0, .int .u8 0, .int .u8 0, .int .u8 0, .int .u8 0, .int .u8 0, .int .u8 0, .int .u8 0, .bool false, .int .i64 0]) 48 rfl Try.underlying26 info_sn rfl (by decide) (by decide) v l x [.int .i64 x.nd, .int .u16 x.id, .int .i64 x.len, .int .u8 x.x0, .int .u8 x.x1, .int .u8 x.x2, .int .u8 x.x3, .int .u8 x.x4, .int .u8 x.x5, .int .u8 x.x6, .int .u8 x.x7, .bool x.rem, .int .i64 x.num] (fun k => k ≠ g) (fun _ => False) rfl rfl rfl (fun _ hk => hk.elim) (fun k hk => by have h1 := HG.out; have h2 := hHeld.size; omega) HROW.out (Below.refl _ _) (Nat.zero_le _) (by omega) ?_
  intro v1 w1 hown _ hg hat
  obtain ⟨A1, c1, hv1, -⟩ := Kd.R_reads hown
  have HO1 := Aside0.mk hown
  have HG1 := Aside0.mk hg
  have HAT := Aside0.mk hat
  have hb1 : w1.heap[g]? = some (.cells #[v, .int .i64 N] 62 (0, 0)) := keep_g HBLK.out hg HN.out
  have z0 : w1.cell? ⟨g, 0, none⟩ = some v := blk_cell hb1 0
  have zf : w1.frozen? ⟨g, 0, none⟩ = false := blk_frozen hb1 0
  have HB1 := Aside0.mk hb1
  have HV1 := Aside0.mk hv1
  clear hown hg hat hb1
  refine hK.out _ _ ?_
  clear hK K
  simp only [Act.put, List.setIfInBounds_toArray, List.set_cons_zero, List.set_cons_succ]
  obtain ⟨n1, hn1⟩ : ∃ n1, (l ++ [x]).length = n1 := ⟨_, rfl⟩
  rw [hn1] at hv1
  subst hv1
  refine any_take (i := 9) (oi := { dst := some 13, op := Op.nilCheck (Operand.tmp 4), type := 0, pos := _, after := _, guard := none }) (v := ?_) rfl (by kernel_rfl) (by kernel_rfl) (by kernel_rfl) (fun _ _ _ h => h) (Or.inl ⟨rfl, ?_⟩) ?_
  rotate_left
  · intro w
    go_simp
    try exact rfl
  try simp only [Act.put, List.setIfInBounds_toArray, List.set_cons_zero, List.set_cons_succ]
  refine any_take (i := 10) (oi := { dst := some 14, op := Op.fieldAddr 58 (Operand.tmp 13) 0, type := 0, pos := _, after := _, guard := none }) (v := ?_) rfl (by kernel_rfl) (by kernel_rfl) (by kernel_rfl) (fun _ _ _ h => h) (Or.inl ⟨rfl, ?_⟩) ?_
  rotate_left
  · intro w
    go_simp
    try exact rfl
  try simp only [Act.put, List.setIfInBounds_toArray, List.set_cons_zero, List.set_cons_succ]
  refine wpAnyLast_ready (rs := [11]) (by kernel_rfl) (by simp) ?_
  refine AllReadyL.cons_last (o := { dst := none, op := Op.store 26 (Operand.tmp 14) (Operand.tmp 12), type := 0, pos := _, after := _, guard := none }) rfl (by decide) (fun K hK => ?_) AllReadyL.nil
  rw [if_pos (wanted_none rfl)]
  go_simp
  refine hK.out _ _ ?_
  clear hK K
  try simp only [Act.put]
  refine wpAnyLast_done (by kernel_rfl) ?_ _
  go_wp2_with (fail)
  go_end0
  refine ⟨rfl, .slice A1 n1 c1, bus_put HB1.out HO1.out, ?_, fun k hk => ?_⟩
  · have h1 : Fr (Mv g v) wd w1 := Fr.of_grownBy HG1.out (fun k hk => .inl (.inr hk))
    exact ((HD.out.mono (fun _ h => h.elim)).trans h1).trans (Fr.setCell w1 ⟨g, 0, none⟩ _ (.inl (.inl rfl)))
  · rcases HAT.out with h2 | ⟨b, h2, h3⟩
    · exact .inl (h2 ▸ hk)
    · rw [h2] at hk
      cases hk
      exact .inr (Nat.le_trans HD.out.size h3)
end Go.Proofs.Ytnjmohdfnicpdaa.Bus
