/- Gone of both, on with a copy (printed by gen_ia.py). -/
import Derived.Test.YtnjmohdfnicpdaaHz
namespace Go.Proofs.Ytnjmohdfnicpdaa.Bus
open Go.RowKit Go.Shelf Go.Lib Go.Sort Go.Proofs.Ytnjmohdfnicpdaa.Frm Go.Proofs.Ytnjmohdfnicpdaa.Rng Go.Proofs.YtnjmohdfnicpdaaW.PrintWords Go.Proofs.YtnjmohdfnicpdaaW.PrintMore Go.Proofs.YtnjmohdfnicpdaaW.PrintLast

set_option maxHeartbeats 4000000 in
set_option maxRecDepth 100000 in
theorem one_copy (w : World) (S : Nat → Prop) (g gm : Nat) (L : List Sn) (N : Int) (s : Stp) (h : PairW w S g gm L N) (hk : pickC s.kd 6 = 5) :
    Calls Try.prog 16 #[.pointer (some ⟨g, 0, none⟩), .pointer (some ⟨gm, 0, none⟩), .agg #[.int .i64 s.kd, .int .i64 s.x.nd, .int .u16 s.x.id, .int .i64 s.x.len, .int .u8 s.x.x0, .int .u8 s.x.x1, .int .u8 s.x.x2, .int .u8 s.x.x3, .int .u8 s.x.x4, .int .u8 s.x.x5, .int .u8 s.x.x6, .int .u8 s.x.x7, .bool s.x.rem, .int .i64 s.tm]] w (OneSaid S g gm N w) := by
  obtain ⟨p, hp⟩ : ∃ p, pickC s.kd 6 = p := ⟨_, rfl⟩
  have HP := Aside0.mk (pick_any s.kd 6)
  rw [hp] at HP hk
  have hnw := heap_alloc_new w (.cells #[.int .i64 s.kd, .int .i64 s.x.nd, .int .u16 s.x.id, .int .i64 s.x.len, .int .u8 s.x.x0, .int .u8 s.x.x1, .int .u8 s.x.x2, .int .u8 s.x.x3, .int .u8 s.x.x4, .int .u8 s.x.x5, .int .u8 s.x.x6, .int .u8 s.x.x7, .bool s.x.rem, .int .i64 s.tm] 45)
  have hbw := below_alloc (Below.refl w.heap.size w) (.cells #[.int .i64 s.kd, .int .i64 s.x.nd, .int .u16 s.x.id, .int .i64 s.x.len, .int .u8 s.x.x0, .int .u8 s.x.x1, .int .u8 s.x.x2, .int .u8 s.x.x3, .int .u8 s.x.x4, .int .u8 s.x.x5, .int .u8 s.x.x6, .int .u8 s.x.x7, .bool s.x.rem, .int .i64 s.tm] 45)
  obtain ⟨v, l, A, c, h⟩ := h
  have HX := Aside0.mk (h.below hbw)
  have HW := Aside0.mk hbw
  have HML := Aside0.mk (show ∀ k, S k → k < w.heap.size from h.lt)
  have HNW := Aside0.mk hnw
  have c0 : (w.alloc (.cells #[.int .i64 s.kd, .int .i64 s.x.nd, .int .u16 s.x.id, .int .i64 s.x.len, .int .u8 s.x.x0, .int .u8 s.x.x1, .int .u8 s.x.x2, .int .u8 s.x.x3, .int .u8 s.x.x4, .int .u8 s.x.x5, .int .u8 s.x.x6, .int .u8 s.x.x7, .bool s.x.rem, .int .i64 s.tm] 45)).cell? ⟨w.heap.size, 0, none⟩ = some (.int .i64 s.kd) := blk_cell hnw 0
  clear h hbw hnw hp
  go_enter Try.func16, Try.ntmps16
  go_wp2_with (fail)
  refine (HP.out _ (by decide) (by decide)).mono ?_
  rintro e w0 ⟨rfl, hw0⟩
  subst hw0
  clear HP
  subst hk
  go_wp2_with (fail)
  go_ret
  exact ⟨rfl, S, L, N, ⟨_, _, _, _, HX.out⟩, PTurn.below HW.out, by omega⟩
set_option maxHeartbeats 4000000 in
set_option maxRecDepth 100000 in
theorem one_gone (w : World) (S : Nat → Prop) (g gm : Nat) (L : List Sn) (N : Int) (s : Stp) (h : PairW w S g gm L N) (hk : pickC s.kd 6 = 4) :
    Calls Try.prog 16 #[.pointer (some ⟨g, 0, none⟩), .pointer (some ⟨gm, 0, none⟩), .agg #[.int .i64 s.kd, .int .i64 s.x.nd, .int .u16 s.x.id, .int .i64 s.x.len, .int .u8 s.x.x0, .int .u8 s.x.x1, .int .u8 s.x.x2, .int .u8 s.x.x3, .int .u8 s.x.x4, .int .u8 s.x.x5, .int .u8 s.x.x6, .int .u8 s.x.x7, .bool s.x.rem, .int .i64 s.tm]] w (OneSaid S g gm N w) := by
  obtain ⟨p, hp⟩ : ∃ p, pickC s.kd 6 = p := ⟨_, rfl⟩
  have HP := Aside0.mk (pick_any s.kd 6)
  rw [hp] at HP hk
  have hnw := heap_alloc_new w (.cells #[.int .i64 s.kd, .int .i64 s.x.nd, .int .u16 s.x.id, .int .i64 s.x.len, .int .u8 s.x.x0, .int .u8 s.x.x1, .int .u8 s.x.x2, .int .u8 s.x.x3, .int .u8 s.x.x4, .int .u8 s.x.x5, .int .u8 s.x.x6, .int .u8 s.x.x7, .bool s.x.rem, .int .i64 s.tm] 45)
  have hbw := below_alloc (Below.refl w.heap.size w) (.cells #[.int .i64 s.kd, .int .i64 s.x.nd, .int .u16 s.x.id, .int .i64 s.x.len, .int .u8 s.x.x0, .int .u8 s.x.x1, .int .u8 s.x.x2, .int .u8 s.x.x3, .int .u8 s.x.x4, .int .u8 s.x.x5, .int .u8 s.x.x6, .int .u8 s.x.x7, .bool s.x.rem, .int .i64 s.tm] 45)
  obtain ⟨v, l, A, c, h⟩ := h
  have HX := Aside0.mk (h.below hbw)
  have HW := Aside0.mk hbw
  have HML := Aside0.mk (show ∀ k, S k → k < w.heap.size from h.lt)
  have HNW := Aside0.mk hnw
  have c0 : (w.alloc (.cells #[.int .i64 s.kd, .int .i64 s.x.nd, .int .u16 s.x.id, .int .i64 s.x.len, .int .u8 s.x.x0, .int .u8 s.x.x1, .int .u8 s.x.x2, .int .u8 s.x.x3, .int .u8 s.x.x4, .int .u8 s.x.x5, .int .u8 s.x.x6, .int .u8 s.x.x7, .bool s.x.rem, .int .i64 s.tm] 45)).cell? ⟨w.heap.size, 0, none⟩ = some (.int .i64 s.kd) := blk_cell hnw 0
  clear h hbw hnw hp
  go_enter Try.func16, Try.ntmps16
  go_wp2_with (fail)
  refine (HP.out _ (by decide) (by decide)).mono ?_
  rintro e w0 ⟨rfl, hw0⟩
  subst hw0
  clear HP
  subst hk
  have HS0 := Aside0.mk HW.out.size
  have htl := (Array.getElem?_eq_some_iff.1 HNW.out).1
  obtain ⟨t, ht⟩ : ∃ t, w.heap.size = t := ⟨_, rfl⟩
  rw [ht] at HNW HML htl c0
  rw [ht]
  have HTT := Aside0.mk ht
  clear ht
  generalize w.alloc (.cells #[.int .i64 s.kd, .int .i64 s.x.nd, .int .u16 s.x.id, .int .i64 s.x.len, .int .u8 s.x.x0, .int .u8 s.x.x1, .int .u8 s.x.x2, .int .u8 s.x.x3, .int .u8 s.x.x4, .int .u8 s.x.x5, .int .u8 s.x.x6, .int .u8 s.x.x7, .bool s.x.rem, .int .i64 s.tm] 45) = W0 at HX HW HS0 HNW c0 htl ⊢
  have HTL := Aside0.mk htl
  clear htl
  go_wp2_with (fail)
  have hS0 : W0.drew.cell? ⟨t, 1, none⟩ = some (.int .i64 s.x.nd) := blk_cell (show W0.drew.heap[t]? = _ from HNW.out) 1
  have HXD := Aside0.mk (HX.out.below (below_drew (Below.refl _ _)))
  have HWD := Aside0.mk (show Below w.heap.size w W0.drew from HW.out.trans ((below_drew (Below.refl _ _)).mono HS0.out))
  have HTD := Aside0.mk (show t < W0.drew.heap.size from HTL.out)
  refine wp_region_held_drew (S := fun Z => Z.cell? ⟨t, 1, none⟩ = some (.int .i64 s.x.nd)) (by kernel_rfl) hS0 (fun hHeld => ?_)
  clear hS0 c0
  generalize W0.drew = wd at hHeld HXD HWD HTD ⊢
  refine wpAnyH_take (i := 0) (oi := { dst := some 54, op := Op.move (Operand.tmp 0), type := 24, pos := _, after := _, guard := none }) (v := ?_) rfl (by kernel_rfl) (by kernel_rfl) (by kernel_rfl) (fun _ _ _ h => h) (Or.inl ⟨rfl, ?_⟩) hHeld ?_
  rotate_left
  · intro w hSw
    try dsimp only at hSw
    go_simp
    try exact rfl
  try simp only [Act.put, List.setIfInBounds_toArray, List.set_cons_zero, List.set_cons_succ]
  refine wpAnyH_take (i := 1) (oi := { dst := some 55, op := Op.fieldAddr 45 (Operand.tmp 5) 1, type := 0, pos := _, after := _, guard := none }) (v := ?_) rfl (by kernel_rfl) (by kernel_rfl) (by kernel_rfl) (fun _ _ _ h => h) (Or.inl ⟨rfl, ?_⟩) hHeld ?_
  rotate_left
  · intro w hSw
    try dsimp only at hSw
    go_simp
    try exact rfl
  try simp only [Act.put, List.setIfInBounds_toArray, List.set_cons_zero, List.set_cons_succ]
  refine wpAnyH_take (i := 2) (oi := { dst := some 56, op := Op.load 3 (Operand.tmp 55), type := 3, pos := _, after := _, guard := none }) (v := ?_) rfl (by kernel_rfl) (by kernel_rfl) (by kernel_rfl) (fun _ _ _ h => h) (Or.inl ⟨rfl, ?_⟩) hHeld ?_
  rotate_left
  · intro w hSw
    try dsimp only at hSw
    go_simp
    try exact rfl
  try simp only [Act.put, List.setIfInBounds_toArray, List.set_cons_zero, List.set_cons_succ]
  refine wpAnyH_take (i := 4) (oi := { dst := some 58, op := Op.move (Operand.tmp 1), type := 46, pos := _, after := _, guard := none }) (v := ?_) rfl (by kernel_rfl) (by kernel_rfl) (by kernel_rfl) (fun _ _ _ h => h) (Or.inl ⟨rfl, ?_⟩) hHeld ?_
  rotate_left
  · intro w hSw
    try dsimp only at hSw
    go_simp
    try exact rfl
  try simp only [Act.put, List.setIfInBounds_toArray, List.set_cons_zero, List.set_cons_succ]
  refine wpAnyH_take (i := 5) (oi := { dst := some 59, op := Op.fieldAddr 45 (Operand.tmp 5) 1, type := 0, pos := _, after := _, guard := none }) (v := ?_) rfl (by kernel_rfl) (by kernel_rfl) (by kernel_rfl) (fun _ _ _ h => h) (Or.inl ⟨rfl, ?_⟩) hHeld ?_
  rotate_left
  · intro w hSw
    try dsimp only at hSw
    go_simp
    try exact rfl
  try simp only [Act.put, List.setIfInBounds_toArray, List.set_cons_zero, List.set_cons_succ]
  refine wpAnyH_take (i := 6) (oi := { dst := some 60, op := Op.load 3 (Operand.tmp 59), type := 3, pos := _, after := _, guard := none }) (v := ?_) rfl (by kernel_rfl) (by kernel_rfl) (by kernel_rfl) (fun _ _ _ h => h) (Or.inl ⟨rfl, ?_⟩) hHeld ?_
  rotate_left
  · intro w hSw
    try dsimp only at hSw
    go_simp
    try exact rfl
  try simp only [Act.put, List.setIfInBounds_toArray, List.set_cons_zero, List.set_cons_succ]
  refine wpAnyH_ready (rs := [3]) (by kernel_rfl) (by simp) ?_
  refine AllReadyH.cons (o := { dst := some 57, op := Op.call { callee := Go.Callee.value (Operand.func 18), args := #[Operand.tmp 54, Operand.tmp 56], argTypes := #[24, 3] }, type := 3, pos := _, after := _, guard := none }) rfl (fun K hK => ?_) AllReadyH.nil
  rw [if_pos (wanted_none rfl)]
  go_simp
  refine (bgone_any wd g v l N s.x.nd HXD.out.bus HXD.out.llen).mono ?_
  rintro e w1 ⟨rfl, v1, l1, hb1, hp1, hh1, ht1⟩
  have hnt : ¬ Mv g v t := fun hm => by
    have := HML.out t (HXD.out.mv t hm).1
    omega
  have hS1 : w1.cell? ⟨t, 1, none⟩ = some (.int .i64 s.x.nd) := ht1.fr.cell hHeld hnt
  have HR1 := Aside0.mk (HXD.out.ref.fr ht1.fr (fun hm => (HXD.out.mv gm hm).2 rfl) (fun h0 ad e => (HXD.out.row h0 ad e).2))
  have HB1 := Aside0.mk hb1
  have HP1 := Aside0.mk hp1
  have HH1 := Aside0.mk hh1
  have HT1 := Aside0.mk ht1
  refine hK.out _ _ hS1 (fun hHeld2 => ?_)
  clear hK K hHeld hb1 hp1 hh1 ht1 hnt hS1
  try simp only [Act.put, List.setIfInBounds_toArray, List.set_cons_zero, List.set_cons_succ]
  refine wpAnyH_ready (rs := [7]) (by kernel_rfl) (by simp) ?_
  refine AllReadyH.cons (o := { dst := some 61, op := Op.call { callee := Go.Callee.value (Operand.func 29), args := #[Operand.tmp 58, Operand.tmp 60], argTypes := #[46, 3] }, type := 3, pos := _, after := _, guard := none }) rfl (fun K hK => ?_) AllReadyH.nil
  rw [if_pos (wanted_none rfl)]
  go_simp
  refine (rgone_any w1 gm A c L N s.x.nd HR1.out (by have := HXD.out.cap; omega)).mono ?_
  rintro e w2 ⟨rfl, A2, c2, hr2, ht2⟩
  have hstep := HXD.out.step HB1.out HH1.out HT1.out hr2 ht2.fr (fun ad' e h0 => (ht2.own ad' e).imp (fun h => ⟨Nat.lt_of_lt_of_le h0 (List.length_filter_le ..), h⟩) id) (HXD.out.pp.gone s.x.nd HP1.out) (Nat.le_trans (List.length_filter_le ..) HXD.out.cap)
  have HFIN := Aside0.mk (show ∃ S', PairW w2 S' g gm (L.filter (keepP s.x.nd)) N ∧ PTurn S S' w w2 from ⟨_, ⟨_, _, _, _, hstep.1⟩, (PTurn.below HWD.out).trans hstep.2⟩)
  have hS2 : w2.cell? ⟨t, 1, none⟩ = some (.int .i64 s.x.nd) := ht2.fr.cell hHeld2 (fun e => by
    have h1 := HML.out gm HXD.out.sm
    have h2 : t = gm := e
    omega)
  have hfe : (l.filter (keepP s.x.nd)).length = (L.filter (keepP s.x.nd)).length := (HXD.out.pp.perm.filter _).length_eq
  rw [HXD.out.len, hfe]
  generalize ((L.length - (L.filter (keepP s.x.nd)).length : Nat) : Int) = r
  refine hK.out _ _ hS2 (fun hHeld3 => ?_)
  clear hK K hHeld2 hstep hr2 ht2 hS2 hfe
  try simp only [Act.put, List.setIfInBounds_toArray, List.set_cons_zero, List.set_cons_succ]
  refine wpAnyH_take (i := 8) (oi := { dst := some 62, op := Op.binOp Go.BinOp.eql 3 (Operand.tmp 57) (Operand.tmp 61) 3, type := 4, pos := _, after := _, guard := none }) (v := ?_) rfl (by kernel_rfl) (by kernel_rfl) (by kernel_rfl) (fun _ _ _ h => h) (Or.inl ⟨rfl, ?_⟩) hHeld3 ?_
  rotate_left
  · intro w hSw
    try dsimp only at hSw
    go_simp
    try exact rfl
  try simp only [Act.put, List.setIfInBounds_toArray, List.set_cons_zero, List.set_cons_succ]
  refine wpAnyH_take (i := 9) (oi := { dst := some 6, op := Op.assign (Operand.tmp 62), type := 4, pos := _, after := _, guard := none }) (v := ?_) rfl (by kernel_rfl) (by kernel_rfl) (by kernel_rfl) (fun _ _ _ h => h) (Or.inl ⟨rfl, ?_⟩) hHeld3 ?_
  rotate_left
  · intro w hSw
    try dsimp only at hSw
    go_simp
    try exact rfl
  try simp only [Act.put, List.setIfInBounds_toArray, List.set_cons_zero, List.set_cons_succ]
  refine wpAnyH_done (by kernel_rfl) ?_ _
  go_wp2_with (fail)
  go_ret
  obtain ⟨S', h1, h2⟩ := HFIN.out
  exact ⟨rfl, S', _, N, h1, h2, by omega⟩
end Go.Proofs.Ytnjmohdfnicpdaa.Bus
