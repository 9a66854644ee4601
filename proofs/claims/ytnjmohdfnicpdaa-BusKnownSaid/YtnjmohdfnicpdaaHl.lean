/- slices.Clone of what waits; Copy of the bus (printed by gen_hl.py). -/
import Derived.Test.YtnjmohdfnicpdaaHk
namespace Go.Proofs.Ytnjmohdfnicpdaa.Bus
open Go.RowKit Go.Shelf Go.Lib Go.Sort Go.Proofs.Ytnjmohdfnicpdaa.Frm Go.Proofs.Ytnjmohdfnicpdaa.Rng Go.Proofs.YtnjmohdfnicpdaaW.PrintWords Go.Proofs.YtnjmohdfnicpdaaW.PrintMore Go.Proofs.YtnjmohdfnicpdaaW.PrintLast

theorem R_zeroS (W : World) (base : Nat) (hb : base ≤ W.heap.size) : Kd.R kSn 35 (W.alloc (.cells #[] 35)) base (fun k => base ≤ k) (.slice (some ⟨W.heap.size, 0, none⟩) 0 0) [] := by
  refine ⟨fun k hk => ?_, [], ?_, ⟨rfl, fun j p hj => by simp at hj⟩⟩
  · simp [Value.ownBlock] at hk
    omega
  · have h2 := World.ownsRow_lit (base := base) (e := 35) (size := 13) W #[] 0 hb (by simp [maxLen]) (by simp)
    exact h2
set_option maxRecDepth 100000 in
set_option maxHeartbeats 1000000 in
theorem clone_any (A : Option Addr) (c : Nat) (l : List Sn) (w : World) (hm : kSn.C w A l.length l) (hl : l.length ≤ 100000) :
    Calls Try.prog 24 #[.slice A l.length c] w fun e w' => ∃ v, e = .returned v ∧ Kd.R kSn 35 w' w.heap.size (fun k => w.heap.size ≤ k) v l ∧ Below w.heap.size w w' := by
  have hn := Lib.run_eql_slice_nil (P := Try.prog)
  cases A with
  | none =>
    obtain rfl : l = [] := by
      cases l with
      | nil => rfl
      | cons m r => obtain ⟨_, _, h3⟩ := hm; obtain ⟨ad, e, _⟩ := h3 (by simp); cases e
    go_enter Try.func24, Try.ntmps24
    go_wp2
    go_ret
    exact ⟨_, rfl, Kd.R_nil _ _ _ _ _, Below.refl _ _⟩
  | some ad =>
    have HM := Aside0.mk hm
    obtain ⟨n, hnl⟩ : ∃ n, l.length = n := ⟨_, rfl⟩
    have HN := Aside0.mk hnl
    rw [hnl] at hl ⊢
    clear hm hnl
    go_enter Try.func24, Try.ntmps24
    go_wp2_with ((with_reducible refine gate_dst (N := 7) rfl ?_); go_loud (refine Kd.R_append_rows kSn (Rr := fun x cs => kSn.K w x cs) (w0 := w) w.heap.size rfl _ _ 26 35 (.agg #[.int .i64 0, .int .u16 0, .int .i64 0, .int .u8 0, .int .u8 0, .int .u8 0, .int .u8 0, .int .u8 0, .int .u8 0, .int .u8 0, .int .u8 0, .bool false, .int .i64 0]) 48 rfl Try.underlying26 info_sn rfl (by decide) (by decide) _ [] l (some ad) n c (fun k => w.heap.size ≤ k) (fun _ => False) rfl rfl (R_zeroS w _ (Nat.le_refl _)) (HN.out ▸ Kd.C_below HM.out (below_alloc (Below.refl _ _) _)) (fun x cs hx => hx) (fun k hk => hk.elim) (fun k hk => by simp at hk; omega) (below_alloc (Below.refl _ _) _) (by simp) (by simp; omega) ?_; intro v1 w1 hown hb hg hat; have HO := Aside0.mk hown; have HB := Aside0.mk hb; clear hown hb hg hat))
    go_ret
    have hown := HO.out
    rw [List.nil_append] at hown
    exact ⟨_, rfl, hown, HB.out⟩
set_option maxHeartbeats 4000000 in
set_option maxRecDepth 100000 in
theorem bcopy_any (w : World) (g : Nat) (v : Value) (l : List Sn) (N : Int) (h : BusAt w g v l N) (hl : l.length ≤ 100000) :
    Calls Try.prog 14 #[.pointer (some ⟨g, 0, none⟩)] w fun e w' => ∃ g' v', e = .returned (.pointer (some ⟨g', 0, none⟩)) ∧ w.heap.size ≤ g' ∧ (∀ k, v'.ownBlock = some k → w.heap.size ≤ k) ∧ BusAt w' g' v' l N ∧ Below w.heap.size w w' := by
  obtain ⟨A, c, rfl, hlc, hC⟩ := Kd.R_reads h.row
  have HC := Aside0.mk hC
  have HBD : Below w.heap.size w w.drew := below_drew (Below.refl _ _)
  have hh : ∀ Z, Below w.heap.size w Z → BusAt Z g (.slice A l.length c) l N := fun Z hZ => h.fr (Fr.of_below (M := fun _ => False) hZ) (fun h => h) (fun _ _ h => h)
  have u0 : ∀ Z, Below w.heap.size w Z → Z.cell? ⟨g, 0, none⟩ = some (.slice A l.length c) := fun Z hZ => (hh Z hZ).cell0
  have u1 : ∀ Z, Below w.heap.size w Z → Z.cell? ⟨g, 1, none⟩ = some (.int .i64 N) := fun Z hZ => (hh Z hZ).cell1
  clear h hh hC
  go_enter Try.func14, Try.ntmps14
  go_wp2_with (fail)
  refine wp_region_held_drew (S := fun Z => Below w.heap.size w Z) (by kernel_rfl) HBD (fun hHeld => ?_)
  clear HBD
  have HBD := Aside0.mk hHeld
  generalize w.drew = wd at hHeld HBD ⊢
  refine wpAnyH_take (i := 0) (oi := { dst := some 5, op := Op.move (Operand.tmp 0), type := 24, pos := _, after := _, guard := none }) (v := ?_) rfl (by kernel_rfl) (by kernel_rfl) (by kernel_rfl) (fun _ _ _ h => h) (Or.inl ⟨rfl, ?_⟩) hHeld ?_
  rotate_left
  · intro w hSw
    try dsimp only at hSw
    go_simp
    try exact rfl
  try simp only [Act.put, List.setIfInBounds_toArray, List.set_cons_zero, List.set_cons_succ]
  refine wpAnyH_take (i := 1) (oi := { dst := some 6, op := Op.nilCheck (Operand.tmp 5), type := 0, pos := _, after := _, guard := none }) (v := ?_) rfl (by kernel_rfl) (by kernel_rfl) (by kernel_rfl) (fun _ _ _ h => h) (Or.inl ⟨rfl, ?_⟩) hHeld ?_
  rotate_left
  · intro w hSw
    try dsimp only at hSw
    go_simp
    try exact rfl
  try simp only [Act.put, List.setIfInBounds_toArray, List.set_cons_zero, List.set_cons_succ]
  refine wpAnyH_take (i := 2) (oi := { dst := some 7, op := Op.fieldAddr 62 (Operand.tmp 6) 0, type := 0, pos := _, after := _, guard := none }) (v := ?_) rfl (by kernel_rfl) (by kernel_rfl) (by kernel_rfl) (fun _ _ _ h => h) (Or.inl ⟨rfl, ?_⟩) hHeld ?_
  rotate_left
  · intro w hSw
    try dsimp only at hSw
    go_simp
    try exact rfl
  try simp only [Act.put, List.setIfInBounds_toArray, List.set_cons_zero, List.set_cons_succ]
  refine wpAnyH_take (i := 3) (oi := { dst := some 8, op := Op.fieldAddr 60 (Operand.tmp 7) 0, type := 0, pos := _, after := _, guard := none }) (v := ?_) rfl (by kernel_rfl) (by kernel_rfl) (by kernel_rfl) (fun _ _ _ h => h) (Or.inl ⟨rfl, ?_⟩) hHeld ?_
  rotate_left
  · intro w hSw
    try dsimp only at hSw
    go_simp
    try exact rfl
  try simp only [Act.put, List.setIfInBounds_toArray, List.set_cons_zero, List.set_cons_succ]
  refine wpAnyH_take (i := 4) (oi := { dst := some 9, op := Op.fieldAddr 58 (Operand.tmp 8) 0, type := 0, pos := _, after := _, guard := none }) (v := ?_) rfl (by kernel_rfl) (by kernel_rfl) (by kernel_rfl) (fun _ _ _ h => h) (Or.inl ⟨rfl, ?_⟩) hHeld ?_
  rotate_left
  · intro w hSw
    try dsimp only at hSw
    go_simp
    try exact rfl
  try simp only [Act.put, List.setIfInBounds_toArray, List.set_cons_zero, List.set_cons_succ]
  refine wpAnyH_take (i := 5) (oi := { dst := some 10, op := Op.load 26 (Operand.tmp 9), type := 26, pos := _, after := _, guard := none }) (v := ?_) rfl (by kernel_rfl) (by kernel_rfl) (by kernel_rfl) (fun _ _ _ h => h) (Or.inl ⟨rfl, ?_⟩) hHeld ?_
  rotate_left
  · intro w hSw
    try dsimp only at hSw
    go_simp
    try exact rfl
  try simp only [Act.put, List.setIfInBounds_toArray, List.set_cons_zero, List.set_cons_succ]
  refine wpAnyH_take (i := 9) (oi := { dst := some 14, op := Op.move (Operand.tmp 0), type := 24, pos := _, after := _, guard := none }) (v := ?_) rfl (by kernel_rfl) (by kernel_rfl) (by kernel_rfl) (fun _ _ _ h => h) (Or.inl ⟨rfl, ?_⟩) hHeld ?_
  rotate_left
  · intro w hSw
    try dsimp only at hSw
    go_simp
    try exact rfl
  try simp only [Act.put, List.setIfInBounds_toArray, List.set_cons_zero, List.set_cons_succ]
  refine wpAnyH_take (i := 10) (oi := { dst := some 15, op := Op.nilCheck (Operand.tmp 14), type := 0, pos := _, after := _, guard := none }) (v := ?_) rfl (by kernel_rfl) (by kernel_rfl) (by kernel_rfl) (fun _ _ _ h => h) (Or.inl ⟨rfl, ?_⟩) hHeld ?_
  rotate_left
  · intro w hSw
    try dsimp only at hSw
    go_simp
    try exact rfl
  try simp only [Act.put, List.setIfInBounds_toArray, List.set_cons_zero, List.set_cons_succ]
  refine wpAnyH_take (i := 11) (oi := { dst := some 16, op := Op.fieldAddr 62 (Operand.tmp 15) 1, type := 0, pos := _, after := _, guard := none }) (v := ?_) rfl (by kernel_rfl) (by kernel_rfl) (by kernel_rfl) (fun _ _ _ h => h) (Or.inl ⟨rfl, ?_⟩) hHeld ?_
  rotate_left
  · intro w hSw
    try dsimp only at hSw
    go_simp
    try exact rfl
  try simp only [Act.put, List.setIfInBounds_toArray, List.set_cons_zero, List.set_cons_succ]
  refine wpAnyH_take (i := 12) (oi := { dst := some 17, op := Op.load 2 (Operand.tmp 16), type := 2, pos := _, after := _, guard := none }) (v := ?_) rfl (by kernel_rfl) (by kernel_rfl) (by kernel_rfl) (fun _ _ _ h => h) (Or.inl ⟨rfl, ?_⟩) hHeld ?_
  rotate_left
  · intro w hSw
    try dsimp only at hSw
    go_simp
    try exact rfl
  try simp only [Act.put, List.setIfInBounds_toArray, List.set_cons_zero, List.set_cons_succ]
  refine wpAnyH_ready (rs := [6]) (by kernel_rfl) (by simp) ?_
  refine AllReadyH.cons (o := { dst := some 11, op := Op.call { callee := Go.Callee.value (Operand.func 24), args := #[Operand.tmp 10], argTypes := #[26] }, type := 26, pos := _, after := _, guard := none }) rfl (fun K hK => ?_) AllReadyH.nil
  rw [if_pos (wanted_none rfl)]
  go_simp
  refine (clone_any A c l wd (Kd.C_below HC.out HBD.out) hl).mono ?_
  rintro e w1 ⟨v1, rfl, hr1, hb1⟩
  have HB1 := Aside0.mk (HBD.out.trans (hb1.mono HBD.out.size))
  have HR1 := Aside0.mk hr1
  refine hK.out _ _ HB1.out (fun hHeld2 => ?_)
  clear hK K hHeld hr1 hb1
  obtain ⟨A1, c1, hv1, -⟩ := Kd.R_reads HR1.out
  subst hv1
  try simp only [Act.put, List.setIfInBounds_toArray, List.set_cons_zero, List.set_cons_succ]
  refine wpAnyH_take (i := 7) (oi := { dst := some 12, op := Op.build 58 #[(0, Operand.tmp 11)], type := 58, pos := _, after := _, guard := none }) (v := ?_) rfl (by kernel_rfl) (by kernel_rfl) (by kernel_rfl) (fun _ _ _ h => h) (Or.inl ⟨rfl, ?_⟩) hHeld2 ?_
  rotate_left
  · intro w hSw
    try dsimp only at hSw
    go_simp
    try exact rfl
  try simp only [Act.put, List.setIfInBounds_toArray, List.set_cons_zero, List.set_cons_succ]
  refine wpAnyH_take (i := 8) (oi := { dst := some 13, op := Op.build 60 #[(0, Operand.tmp 12)], type := 60, pos := _, after := _, guard := none }) (v := ?_) rfl (by kernel_rfl) (by kernel_rfl) (by kernel_rfl) (fun _ _ _ h => h) (Or.inl ⟨rfl, ?_⟩) hHeld2 ?_
  rotate_left
  · intro w hSw
    try dsimp only at hSw
    go_simp
    try exact rfl
  try simp only [Act.put, List.setIfInBounds_toArray, List.set_cons_zero, List.set_cons_succ]
  refine wpAnyH_take (i := 13) (oi := { dst := some 18, op := Op.build 62 #[(0, Operand.tmp 13), (1, Operand.tmp 17)], type := 62, pos := _, after := _, guard := none }) (v := ?_) rfl (by kernel_rfl) (by kernel_rfl) (by kernel_rfl) (fun _ _ _ h => h) (Or.inl ⟨rfl, ?_⟩) hHeld2 ?_
  rotate_left
  · intro w hSw
    try dsimp only at hSw
    go_simp
    try exact rfl
  try simp only [Act.put, List.setIfInBounds_toArray, List.set_cons_zero, List.set_cons_succ]
  refine wpAnyH_ready (rs := [14]) (by kernel_rfl) (by simp) ?_
  refine AllReadyH.cons (o := { dst := some 19, op := Op.box 62 (Operand.tmp 18), type := 24, pos := _, after := _, guard := none }) rfl (fun K hK => ?_) AllReadyH.nil
  rw [if_pos (wanted_none rfl)]
  go_simp
  have hba : Below w1.heap.size w1 (w1.alloc (.cells #[.slice A1 l.length c1, .int .i64 N] 62)) := below_alloc (Below.refl _ _) _
  have hb2 : Below w.heap.size w (w1.alloc (.cells #[.slice A1 l.length c1, .int .i64 N] 62)) := HB1.out.trans (hba.mono HB1.out.size)
  have HB2 := Aside0.mk hb2
  have HBUS := Aside0.mk (show BusAt (w1.alloc (.cells #[.slice A1 l.length c1, .int .i64 N] 62)) w1.heap.size (.slice A1 l.length c1) l N from
    ⟨heap_alloc_new w1 _, Kd.R_lower (Kd.R_mono (Kd.R_below (Kd.R_bound HR1.out) hba) (fun k hk => by omega)) (Nat.zero_le _)⟩)
  have HOWN := Aside0.mk (show ∀ k, (Value.slice A1 l.length c1).ownBlock = some k → w.heap.size ≤ k from fun k hk => Nat.le_trans HBD.out.size (HR1.out.1 k hk))
  refine hK.out _ _ hb2 (fun hHeld3 => ?_)
  clear hK K hHeld2 hb2 hba
  have HSZ := Aside0.mk HB1.out.size
  obtain ⟨t, ht⟩ : ∃ t, w1.heap.size = t := ⟨_, rfl⟩
  rw [ht] at HBUS HSZ
  rw [ht]
  clear ht
  generalize w1.alloc (.cells #[.slice A1 l.length c1, .int .i64 N] 62) = W2 at HB2 HBUS hHeld3 ⊢
  try simp only [Act.put, List.setIfInBounds_toArray, List.set_cons_zero, List.set_cons_succ]
  refine wpAnyH_take (i := 15) (oi := { dst := some 2, op := Op.assign (Operand.tmp 19), type := 24, pos := _, after := _, guard := none }) (v := ?_) rfl (by kernel_rfl) (by kernel_rfl) (by kernel_rfl) (fun _ _ _ h => h) (Or.inl ⟨rfl, ?_⟩) hHeld3 ?_
  rotate_left
  · intro w hSw
    try dsimp only at hSw
    go_simp
    try exact rfl
  try simp only [Act.put, List.setIfInBounds_toArray, List.set_cons_zero, List.set_cons_succ]
  refine wpAnyH_done (by kernel_rfl) ?_ _
  go_wp2_with (fail)
  go_ret
  exact ⟨t, _, rfl, HSZ.out, HOWN.out, HBUS.out, HB2.out⟩
end Go.Proofs.Ytnjmohdfnicpdaa.Bus
