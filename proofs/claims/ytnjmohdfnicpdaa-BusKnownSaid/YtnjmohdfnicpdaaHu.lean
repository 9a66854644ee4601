/- The document's Copy (printed by gen_hu.py). -/
import Derived.Test.YtnjmohdfnicpdaaHt
namespace Go.Proofs.Ytnjmohdfnicpdaa.Bus
open Go.RowKit Go.Shelf Go.Lib Go.Sort Go.Proofs.Ytnjmohdfnicpdaa.Frm Go.Proofs.Ytnjmohdfnicpdaa.Rng Go.Proofs.YtnjmohdfnicpdaaW.PrintWords Go.Proofs.YtnjmohdfnicpdaaW.PrintMore Go.Proofs.YtnjmohdfnicpdaaW.PrintLast

/-- What the document's Copy tells. -/
def RCSaid (w : World) (l : List Sn) (N : Int) (e : Ending) (w' : World) : Prop := ∃ g' A' c', e = .returned (.pointer (some ⟨g', 0, none⟩)) ∧ w.heap.size ≤ g' ∧ (∀ ad, A' = some ad → w.heap.size ≤ ad.block) ∧ RefAt w' g' A' c' l N ∧ Below w.heap.size w w'
set_option maxHeartbeats 4000000 in
set_option maxRecDepth 100000 in
theorem rcopy_any (w : World) (gm : Nat) (A : Option Addr) (c : Nat) (l : List Sn) (N : Int) (h : RefAt w gm A c l N) (hl : l.length ≤ 100000) :
    Calls Try.prog 15 #[.pointer (some ⟨gm, 0, none⟩)] w (RCSaid w l N) := by
  have z1 := h.cell1
  have hn := heap_alloc_new w (.cells #[.slice none 0 0, .int .i64 N] 49)
  have hb := below_alloc (Below.refl w.heap.size w) (.cells #[.slice none 0 0, .int .i64 N] 49)
  have h1 := h.below hb
  have HL := Aside0.mk h.lt
  obtain ⟨n, hnn⟩ : ∃ n, l.length = n := ⟨_, rfl⟩
  have HN := Aside0.mk hnn
  have HB := Aside0.mk hb
  have H1 := Aside0.mk h1
  have HNW := Aside0.mk hn
  have HSZ := Aside0.mk hb.size
  rw [hnn] at hl
  clear h hb h1 hn hnn
  go_enter Try.func15, Try.ntmps15
  go_wp2_with (fail)
  obtain ⟨t, ht⟩ : ∃ t, w.heap.size = t := ⟨_, rfl⟩
  rw [ht] at HNW HL
  rw [ht]
  have HTT := Aside0.mk ht
  clear ht z1
  generalize w.alloc (.cells #[.slice none 0 0, .int .i64 N] 49) = W1 at HB H1 HNW HSZ ⊢
  have htlt := Aside0.mk (show t < W1.heap.size from (Array.getElem?_eq_some_iff.1 HNW.out).1)
  have hbw := Aside0.mk (show Below w.heap.size w W1.drew from HB.out.trans (below_drew (Below.refl _ _)))
  have hrd := (H1.out.below (below_drew (Below.refl _ _)) : RefAt W1.drew gm A c l N)
  have hnd : W1.drew.heap[t]? = some (.cells #[.slice none 0 0, .int .i64 N] 49 (0, 0)) := HNW.out
  have z0 := hrd.cell0
  rw [HN.out] at z0
  have y0 : W1.drew.cell? ⟨t, 0, none⟩ = some (.slice none 0 0) := blk_cell hnd 0
  have HRD := Aside0.mk hrd
  have HND := Aside0.mk hnd
  clear hrd hnd
  refine wp_region_last_drew (S := fun X => X = W1.drew) (ds := [9, 12]) (by kernel_rfl) rfl (fun hHeld => ?_)
  generalize W1.drew = wd at HRD HND hbw z0 y0 hHeld ⊢
  have htd := Aside0.mk (show t < wd.heap.size from (Array.getElem?_eq_some_iff.1 HND.out).1)
  refine any_take (i := 0) (oi := { dst := some 10, op := Op.move (Operand.tmp 3), type := 46, pos := _, after := _, guard := none }) (v := ?_) rfl (by kernel_rfl) (by kernel_rfl) (by kernel_rfl) (fun _ _ _ h => h) (Or.inl ⟨rfl, ?_⟩) ?_
  rotate_left
  · intro w
    go_simp
    try exact rfl
  try simp only [Act.put, List.setIfInBounds_toArray, List.set_cons_zero, List.set_cons_succ]
  refine wpAnyLast_take (i := 1) (oi := { dst := some 11, op := Op.move (Operand.tmp 3), type := 46, pos := _, after := _, guard := none }) (v := ?_) rfl (by kernel_rfl) (by kernel_rfl) (by kernel_rfl) (by kernel_rfl) (by kernel_rfl) (fun _ _ _ h => h) (Or.inl ⟨rfl, ?_⟩) hHeld ?_
  rotate_left
  · rintro w rfl
    try dsimp only at hSw
    go_simp
    try exact rfl
  try simp only [Act.put, List.setIfInBounds_toArray, List.set_cons_zero, List.set_cons_succ]
  refine wpAnyLast_take (i := 2) (oi := { dst := some 12, op := Op.nilCheck (Operand.tmp 11), type := 0, pos := _, after := _, guard := none }) (v := ?_) rfl (by kernel_rfl) (by kernel_rfl) (by kernel_rfl) (by kernel_rfl) (by kernel_rfl) (fun _ _ _ h => h) (Or.inl ⟨rfl, ?_⟩) hHeld ?_
  rotate_left
  · rintro w rfl
    try dsimp only at hSw
    go_simp
    try exact rfl
  try simp only [Act.put, List.setIfInBounds_toArray, List.set_cons_zero, List.set_cons_succ]
  refine wpAnyLast_take (i := 3) (oi := { dst := some 13, op := Op.fieldAddr 49 (Operand.tmp 12) 0, type := 0, pos := _, after := _, guard := none }) (v := ?_) rfl (by kernel_rfl) (by kernel_rfl) (by kernel_rfl) (by kernel_rfl) (by kernel_rfl) (fun _ _ _ h => h) (Or.inl ⟨rfl, ?_⟩) hHeld ?_
  rotate_left
  · rintro w rfl
    try dsimp only at hSw
    go_simp
    try exact rfl
  try simp only [Act.put, List.setIfInBounds_toArray, List.set_cons_zero, List.set_cons_succ]
  refine wpAnyLast_take (i := 4) (oi := { dst := some 14, op := Op.load 47 (Operand.tmp 13), type := 47, pos := _, after := _, guard := none }) (v := ?_) rfl (by kernel_rfl) (by kernel_rfl) (by kernel_rfl) (by kernel_rfl) (by kernel_rfl) (fun _ _ _ h => h) (Or.inl ⟨rfl, ?_⟩) hHeld ?_
  rotate_left
  · rintro w rfl
    try dsimp only at hSw
    go_simp
    try exact rfl
  try simp only [Act.put, List.setIfInBounds_toArray, List.set_cons_zero, List.set_cons_succ]
  refine wpAnyLast_take (i := 5) (oi := { dst := some 15, op := Op.move (Operand.tmp 0), type := 46, pos := _, after := _, guard := none }) (v := ?_) rfl (by kernel_rfl) (by kernel_rfl) (by kernel_rfl) (by kernel_rfl) (by kernel_rfl) (fun _ _ _ h => h) (Or.inl ⟨rfl, ?_⟩) hHeld ?_
  rotate_left
  · rintro w rfl
    try dsimp only at hSw
    go_simp
    try exact rfl
  try simp only [Act.put, List.setIfInBounds_toArray, List.set_cons_zero, List.set_cons_succ]
  refine wpAnyLast_take (i := 6) (oi := { dst := some 16, op := Op.nilCheck (Operand.tmp 15), type := 0, pos := _, after := _, guard := none }) (v := ?_) rfl (by kernel_rfl) (by kernel_rfl) (by kernel_rfl) (by kernel_rfl) (by kernel_rfl) (fun _ _ _ h => h) (Or.inl ⟨rfl, ?_⟩) hHeld ?_
  rotate_left
  · rintro w rfl
    try dsimp only at hSw
    go_simp
    try exact rfl
  try simp only [Act.put, List.setIfInBounds_toArray, List.set_cons_zero, List.set_cons_succ]
  refine wpAnyLast_take (i := 7) (oi := { dst := some 17, op := Op.fieldAddr 49 (Operand.tmp 16) 0, type := 0, pos := _, after := _, guard := none }) (v := ?_) rfl (by kernel_rfl) (by kernel_rfl) (by kernel_rfl) (by kernel_rfl) (by kernel_rfl) (fun _ _ _ h => h) (Or.inl ⟨rfl, ?_⟩) hHeld ?_
  rotate_left
  · rintro w rfl
    try dsimp only at hSw
    go_simp
    try exact rfl
  try simp only [Act.put, List.setIfInBounds_toArray, List.set_cons_zero, List.set_cons_succ]
  refine wpAnyLast_take (i := 8) (oi := { dst := some 18, op := Op.load 47 (Operand.tmp 17), type := 47, pos := _, after := _, guard := none }) (v := ?_) rfl (by kernel_rfl) (by kernel_rfl) (by kernel_rfl) (by kernel_rfl) (by kernel_rfl) (fun _ _ _ h => h) (Or.inl ⟨rfl, ?_⟩) hHeld ?_
  rotate_left
  · rintro w rfl
    try dsimp only at hSw
    go_simp
    try exact rfl
  try simp only [Act.put, List.setIfInBounds_toArray, List.set_cons_zero, List.set_cons_succ]
  refine wpAnyLast_ready (rs := [9]) (by kernel_rfl) (by simp) ?_
  refine AllReadyL.cons_last (o := { dst := some 19, op := Op.call { callee := Go.Callee.builtin Go.Builtin.append, args := #[Operand.tmp 14, Operand.tmp 18], argTypes := #[47, 47] }, type := 47, pos := _, after := _, guard := none }) rfl (by decide) (fun K hK => ?_) AllReadyL.nil
  refine Kd.R_append_rows_step kSn (Rr := fun x cs => kSn.K wd x cs) (w0 := w) (W := wd) w.heap.size (wanted_none rfl) (.tmp 14) (.tmp 18) 47 72 (.agg #[.int .i64 0, .int .u16 0, .int .i64 0, .int .u8 0, .int .u8 0, .int .u8 0, .int .u8 0, .int .u8 0, .int .u8 0, .int .u8 0, .int .u8 0, .bool false, .int .i64 0]) 48 rfl Try.underlying47 info_rsn rfl (by decide) (by decide) (.slice none 0 0) [] l A n c (fun k => k ≠ t ∧ w.heap.size ≤ k) (fun _ => False) rfl rfl (Kd.R_nil _ _ _ _ _) (HN.out ▸ HRD.out.row) (fun x cs hx => hx) (fun k hk => hk.elim) (fun k hk => by have h1 := htd.out; have h2 := hbw.out.size; exact ⟨by omega, by omega⟩) hbw.out hbw.out.size (by simp; omega) ?_
  intro v1 w1 hown hb hg hat
  rw [List.nil_append] at hown
  have HO := Aside0.mk hown
  have HW := Aside0.mk hb
  have hb1 : w1.heap[t]? = some (.cells #[.slice none 0 0, .int .i64 N] 49 (0, 0)) := keep_g HND.out hg (by simp [Value.ownBlock])
  have x0 : w1.cell? ⟨t, 0, none⟩ = some (.slice none 0 0) := blk_cell hb1 0
  have xf : w1.frozen? ⟨t, 0, none⟩ = false := blk_frozen hb1 0
  have HB1 := Aside0.mk hb1
  refine hK.out _ _ ?_
  clear hK K hown hb hg hat hb1
  simp only [Act.put, List.setIfInBounds_toArray, List.set_cons_zero, List.set_cons_succ]
  obtain ⟨A1, c1, hv1, -⟩ := Kd.R_reads HO.out
  rw [HN.out] at hv1
  subst hv1
  refine any_take (i := 10) (oi := { dst := some 20, op := Op.nilCheck (Operand.tmp 10), type := 0, pos := _, after := _, guard := none }) (v := ?_) rfl (by kernel_rfl) (by kernel_rfl) (by kernel_rfl) (fun _ _ _ h => h) (Or.inl ⟨rfl, ?_⟩) ?_
  rotate_left
  · intro w
    go_simp
    try exact rfl
  try simp only [Act.put, List.setIfInBounds_toArray, List.set_cons_zero, List.set_cons_succ]
  refine any_take (i := 11) (oi := { dst := some 21, op := Op.fieldAddr 49 (Operand.tmp 20) 0, type := 0, pos := _, after := _, guard := none }) (v := ?_) rfl (by kernel_rfl) (by kernel_rfl) (by kernel_rfl) (fun _ _ _ h => h) (Or.inl ⟨rfl, ?_⟩) ?_
  rotate_left
  · intro w
    go_simp
    try exact rfl
  try simp only [Act.put, List.setIfInBounds_toArray, List.set_cons_zero, List.set_cons_succ]
  refine wpAnyLast_ready (rs := [12]) (by kernel_rfl) (by simp) ?_
  refine AllReadyL.cons_last (o := { dst := none, op := Op.store 47 (Operand.tmp 21) (Operand.tmp 19), type := 0, pos := _, after := _, guard := none }) rfl (by decide) (fun K hK => ?_) AllReadyL.nil
  rw [if_pos (wanted_none rfl)]
  go_simp
  refine hK.out _ _ ?_
  clear hK K
  try simp only [Act.put]
  refine wpAnyLast_done (by kernel_rfl) ?_ _
  have hrow : ∃ A2 c2, Value.slice A1 n c1 = .slice A2 l.length c2 ∧ RefAt (w1.setCell ⟨t, 0, none⟩ (.slice A1 n c1)) t A2 c2 l N ∧ ∀ ad, A2 = some ad → t ≤ ad.block ∧ ad.block ≠ t := by
    obtain ⟨A2, c2, he, hlc, hC⟩ := Kd.R_reads HO.out
    have hA : ∀ ad, A2 = some ad → (ad.block ≠ t ∧ t ≤ ad.block) ∧ ad = ⟨ad.block, ad.off, none⟩ := fun ad e => by
      obtain ⟨hok, inner, ⟨hil, ho⟩, hr⟩ := HO.out
      subst e
      rcases ho with ⟨h0, _⟩ | ⟨gb, _, _, he2, hb0, _⟩
      · rw [he] at h0
        cases h0
      · rw [he] at he2
        simp at he2
        obtain ⟨rfl, -⟩ := he2
        have := hok gb (by rw [he]; rfl)
        exact ⟨⟨this.1, by have h3 := HTT.out; show t ≤ gb; omega⟩, rfl⟩
    refine ⟨A2, c2, he, ⟨by rw [he]; exact blk_put HB1.out 0 _ rfl, hlc, C_fr hC (Fr.setCell (M := fun k => k = t) w1 ⟨t, 0, none⟩ _ (.inl rfl)) (fun _ ad e => (hA ad e).1.1), fun _ ad e => (hA ad e).1.1, fun ad e => (hA ad e).2⟩, fun ad e => ⟨(hA ad e).1.2, (hA ad e).1.1⟩⟩
  have HROW := Aside0.mk hrow
  have HWF := Aside0.mk (show Below w.heap.size w (w1.setCell ⟨t, 0, none⟩ (.slice A1 n c1)) from HW.out.setCell (p := ⟨t, 0, none⟩) (by have := HTT.out; simp only; omega) _)
  clear hrow x0 xf
  generalize w1.setCell ⟨t, 0, none⟩ (.slice A1 n c1) = W3 at HROW HWF ⊢
  go_wp2_with (fail)
  go_ret
  obtain ⟨A2, c2, -, h1, h2⟩ := HROW.out
  exact ⟨t, A2, c2, rfl, (by have := HTT.out; omega), (fun ad e => by have h3 := (h2 ad e).1; have h4 := HTT.out; omega), h1, HWF.out⟩
end Go.Proofs.Ytnjmohdfnicpdaa.Bus
