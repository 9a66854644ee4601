/- Send of both, over and over (printed by gen_ib.py). -/
import Derived.Test.YtnjmohdfnicpdaaIa
namespace Go.Proofs.Ytnjmohdfnicpdaa.Bus
open Go.RowKit Go.Shelf Go.Lib Go.Sort Go.Proofs.Ytnjmohdfnicpdaa.Frm Go.Proofs.Ytnjmohdfnicpdaa.Rng Go.Proofs.YtnjmohdfnicpdaaW.PrintWords Go.Proofs.YtnjmohdfnicpdaaW.PrintMore Go.Proofs.YtnjmohdfnicpdaaW.PrintLast

/-- The call's cells lie there. -/
def StpAt (t : Nat) (s : Stp) (Z : World) : Prop := Z.heap[t]? = some (.cells #[.int .i64 s.kd, .int .i64 s.x.nd, .int .u16 s.x.id, .int .i64 s.x.len, .int .u8 s.x.x0, .int .u8 s.x.x1, .int .u8 s.x.x2, .int .u8 s.x.x3, .int .u8 s.x.x4, .int .u8 s.x.x5, .int .u8 s.x.x6, .int .u8 s.x.x7, .bool s.x.rem, .int .i64 s.tm] 45 (0, 0))
theorem StpAt.get {t : Nat} {s : Stp} {Z : World} (h : StpAt t s Z) : Z.cell? ⟨t, 1, none⟩ = some (.int .i64 s.x.nd) ∧ Z.cell? ⟨t, 2, none⟩ = some (.int .u16 s.x.id) ∧ Z.cell? ⟨t, 3, none⟩ = some (.int .i64 s.x.len) ∧ Z.cell? ⟨t, 4, none⟩ = some (.int .u8 s.x.x0) ∧ Z.cell? ⟨t, 5, none⟩ = some (.int .u8 s.x.x1) ∧ Z.cell? ⟨t, 6, none⟩ = some (.int .u8 s.x.x2) ∧ Z.cell? ⟨t, 7, none⟩ = some (.int .u8 s.x.x3) ∧ Z.cell? ⟨t, 8, none⟩ = some (.int .u8 s.x.x4) ∧ Z.cell? ⟨t, 9, none⟩ = some (.int .u8 s.x.x5) ∧ Z.cell? ⟨t, 10, none⟩ = some (.int .u8 s.x.x6) ∧ Z.cell? ⟨t, 11, none⟩ = some (.int .u8 s.x.x7) ∧ Z.cell? ⟨t, 12, none⟩ = some (.bool s.x.rem) ∧ Z.cell? ⟨t, 13, none⟩ = some (.int .i64 s.tm) :=
  ⟨blk_cell h 1, blk_cell h 2, blk_cell h 3, blk_cell h 4, blk_cell h 5, blk_cell h 6, blk_cell h 7, blk_cell h 8, blk_cell h 9, blk_cell h 10, blk_cell h 11, blk_cell h 12, blk_cell h 13⟩
theorem StpAt.fr {M : Nat → Prop} {t : Nat} {s : Stp} {Z W : World} (h : StpAt t s Z) (hf : Fr M Z W) (hm : ¬ M t) : StpAt t s W := (hf.block t (Array.getElem?_eq_some_iff.1 h).1 hm).trans h
/-- The frame, to be sent as the next one. -/
def Stp.as (s : Stp) (N : Int) : Sn := { s.x with num := N }
set_option maxHeartbeats 8000000 in
set_option maxRecDepth 100000 in
theorem one_send (w : World) (S : Nat → Prop) (g gm : Nat) (L : List Sn) (N : Int) (s : Stp) (h : PairW w S g gm L N) (hk : pickC s.kd 6 = 0 ∨ pickC s.kd 6 = 1) (hN : N ≤ 100000000) :
    Calls Try.prog 16 #[.pointer (some ⟨g, 0, none⟩), .pointer (some ⟨gm, 0, none⟩), .agg #[.int .i64 s.kd, .int .i64 s.x.nd, .int .u16 s.x.id, .int .i64 s.x.len, .int .u8 s.x.x0, .int .u8 s.x.x1, .int .u8 s.x.x2, .int .u8 s.x.x3, .int .u8 s.x.x4, .int .u8 s.x.x5, .int .u8 s.x.x6, .int .u8 s.x.x7, .bool s.x.rem, .int .i64 s.tm]] w (OneSaid S g gm N w) := by
  obtain ⟨p, hp⟩ : ∃ p, pickC s.kd 6 = p := ⟨_, rfl⟩
  have HP := Aside0.mk (pick_any s.kd 6)
  rw [hp] at HP hk
  have hnw := heap_alloc_new w (.cells #[.int .i64 s.kd, .int .i64 s.x.nd, .int .u16 s.x.id, .int .i64 s.x.len, .int .u8 s.x.x0, .int .u8 s.x.x1, .int .u8 s.x.x2, .int .u8 s.x.x3, .int .u8 s.x.x4, .int .u8 s.x.x5, .int .u8 s.x.x6, .int .u8 s.x.x7, .bool s.x.rem, .int .i64 s.tm] 45)
  have hbw := below_alloc (Below.refl w.heap.size w) (.cells #[.int .i64 s.kd, .int .i64 s.x.nd, .int .u16 s.x.id, .int .i64 s.x.len, .int .u8 s.x.x0, .int .u8 s.x.x1, .int .u8 s.x.x2, .int .u8 s.x.x3, .int .u8 s.x.x4, .int .u8 s.x.x5, .int .u8 s.x.x6, .int .u8 s.x.x7, .bool s.x.rem, .int .i64 s.tm] 45)
  obtain ⟨v, l, A, c, h⟩ := h
  have HX := Aside0.mk (h.below hbw)
  have HW := Aside0.mk hbw
  have HML := Aside0.mk (show ∀ k, S k → k < w.heap.size from h.lt)
  have HNW := Aside0.mk hnw
  have c0 : (w.alloc (.cells #[.int .i64 s.kd, .int .i64 s.x.nd, .int .u16 s.x.id, .int .i64 s.x.len, .int .u8 s.x.x0, .int .u8 s.x.x1, .int .u8 s.x.x2, .int .u8 s.x.x3, .int .u8 s.x.x4, .int .u8 s.x.x5, .int .u8 s.x.x6, .int .u8 s.x.x7, .bool s.x.rem, .int .i64 s.tm] 45)).cell? ⟨w.heap.size, 0, none⟩ = some (.int .i64 s.kd) := blk_cell hnw 0
  clear h hbw hnw hp
  go_enter Try.func16, Try.ntmps16
  go_wp2_with (fail)
  refine (HP.out _ (by decide) (by decide)).mono ?_
  rintro e w0 ⟨rfl, hw0⟩
  subst hw0
  clear HP
  have HS0 := Aside0.mk HW.out.size
  have HTL := Aside0.mk (Array.getElem?_eq_some_iff.1 HNW.out).1
  have HST := Aside0.mk (show StpAt w.heap.size s _ from HNW.out)
  obtain ⟨t, ht⟩ : ∃ t, w.heap.size = t := ⟨_, rfl⟩
  rw [ht] at HML HTL c0 HST
  rw [ht]
  have HTT := Aside0.mk ht
  clear ht HNW
  generalize w.alloc (.cells #[.int .i64 s.kd, .int .i64 s.x.nd, .int .u16 s.x.id, .int .i64 s.x.len, .int .u8 s.x.x0, .int .u8 s.x.x1, .int .u8 s.x.x2, .int .u8 s.x.x3, .int .u8 s.x.x4, .int .u8 s.x.x5, .int .u8 s.x.x6, .int .u8 s.x.x7, .bool s.x.rem, .int .i64 s.tm] 45) = W0 at HX HW HS0 c0 HTL HST ⊢
  obtain ⟨T, hT⟩ : ∃ T, pickC s.tm 600 = T := ⟨_, rfl⟩
  have HPT := Aside0.mk (pick_any s.tm 600)
  have hb := pick_bound s.tm 600 (by decide)
  rw [hT] at HPT hb
  obtain ⟨hT0, hT1⟩ := hb
  clear hT
  rcases hk with rfl | rfl
  all_goals
    go_wp2_with (fail)
    clear c0
    go_loopw [11] (fun i wr => ∃ (k : Nat) (Sk : Nat → Prop) (Lk : List Sn) (Nk : Int), i = .int .i64 k ∧ (k : Int) ≤ T + 1 ∧ Nk ≤ N + k ∧ Aside0 (PairW wr Sk g gm Lk Nk) ∧ Aside0 (PTurn S Sk W0 wr) ∧ Aside0 (StpAt t s wr)) (fun i _ => (T + 1 - intOf i).toNat)
    case atStart => exact ⟨0, S, L, N, rfl, by simp; omega, by simp, ⟨⟨_, _, _, _, HX.out⟩⟩, ⟨PTurn.refl _ _⟩, HST⟩
    case round =>
      obtain ⟨k, Sk, Lk, Nk, rfl, hkT, hNk, HXK, HTK, HSK⟩ := hrel
      have c13 := HSK.out.get.2.2.2.2.2.2.2.2.2.2.2.2
      go_wp2_with (fail)
      refine (HPT.out _ (by decide) (by decide)).mono ?_
      rintro e w0 ⟨rfl, hw0⟩
      have hw0 := hw0.symm
      subst hw0
      clear c13
      by_cases hkl : (k : Int) ≤ T
      · go_wp2_with (fail)
        obtain ⟨v2, l2, A2, c2, hxk⟩ := HXK.out
        have HXD := Aside0.mk (hxk.below (below_drew (Below.refl _ _)))
        have HTD := Aside0.mk (HTK.out.trans (PTurn.below (below_drew (Below.refl wr.heap.size wr))))
        have hS0 : StpAt t s wr.drew := HSK.out
        clear hxk
        refine wp_region_held_drew (S := StpAt t s) (by kernel_rfl) hS0 (fun hHeld => ?_)
        clear hS0
        generalize wr.drew = wd at hHeld HXD HTD ⊢
        have HNT := Aside0.mk (show ¬ Sk t from fun hm => by
          rcases HTD.out.own t hm with h1 | h1
          · have := HML.out t h1
            omega
          · have := HTL.out
            omega)
        obtain ⟨r, hr⟩ : ∃ r, sendC (s.as Nk) l2.length = r := ⟨_, rfl⟩
        have HBS := Aside0.mk (show Calls Try.prog 8 #[.pointer (some ⟨g, 0, none⟩), .int .i64 s.x.nd, .agg #[.int .u16 s.x.id, .int .i64 s.x.len, .int .u8 s.x.x0, .int .u8 s.x.x1, .int .u8 s.x.x2, .int .u8 s.x.x3, .int .u8 s.x.x4, .int .u8 s.x.x5, .int .u8 s.x.x6, .int .u8 s.x.x7, .bool s.x.rem]] wd _ from bsend_any wd g v2 l2 (s.as Nk) r hr HXD.out.bus HXD.out.hp HXD.out.llen ⟨HXD.out.pp.n0, by show Nk < _; omega⟩)
        have HRR := Aside0.mk hr
        clear hr
        refine wpAnyH_take (i := 0) (oi := { dst := some 72, op := Op.move (Operand.tmp 0), type := 24, pos := _, after := _, guard := none }) (v := ?_) rfl (by kernel_rfl) (by kernel_rfl) (by kernel_rfl) (fun _ _ _ h => h) (Or.inl ⟨rfl, ?_⟩) hHeld ?_
        rotate_left
        · intro w hSw
          obtain ⟨s1, s2, s3, s4, s5, s6, s7, s8, s9, s10, s11, s12, s13⟩ := StpAt.get hSw
          try dsimp only at hSw
          go_simp
          try exact rfl
        try simp only [Act.put, List.setIfInBounds_toArray, List.set_cons_zero, List.set_cons_succ]
        refine wpAnyH_take (i := 1) (oi := { dst := some 73, op := Op.fieldAddr 45 (Operand.tmp 5) 1, type := 0, pos := _, after := _, guard := none }) (v := ?_) rfl (by kernel_rfl) (by kernel_rfl) (by kernel_rfl) (fun _ _ _ h => h) (Or.inl ⟨rfl, ?_⟩) hHeld ?_
        rotate_left
        · intro w hSw
          obtain ⟨s1, s2, s3, s4, s5, s6, s7, s8, s9, s10, s11, s12, s13⟩ := StpAt.get hSw
          try dsimp only at hSw
          go_simp
          try exact rfl
        try simp only [Act.put, List.setIfInBounds_toArray, List.set_cons_zero, List.set_cons_succ]
        refine wpAnyH_take (i := 2) (oi := { dst := some 74, op := Op.load 3 (Operand.tmp 73), type := 3, pos := _, after := _, guard := none }) (v := ?_) rfl (by kernel_rfl) (by kernel_rfl) (by kernel_rfl) (fun _ _ _ h => h) (Or.inl ⟨rfl, ?_⟩) hHeld ?_
        rotate_left
        · intro w hSw
          obtain ⟨s1, s2, s3, s4, s5, s6, s7, s8, s9, s10, s11, s12, s13⟩ := StpAt.get hSw
          try dsimp only at hSw
          go_simp
          try exact rfl
        try simp only [Act.put, List.setIfInBounds_toArray, List.set_cons_zero, List.set_cons_succ]
        refine wpAnyH_take (i := 3) (oi := { dst := some 75, op := Op.fieldAddr 45 (Operand.tmp 5) 2, type := 0, pos := _, after := _, guard := none }) (v := ?_) rfl (by kernel_rfl) (by kernel_rfl) (by kernel_rfl) (fun _ _ _ h => h) (Or.inl ⟨rfl, ?_⟩) hHeld ?_
        rotate_left
        · intro w hSw
          obtain ⟨s1, s2, s3, s4, s5, s6, s7, s8, s9, s10, s11, s12, s13⟩ := StpAt.get hSw
          try dsimp only at hSw
          go_simp
          try exact rfl
        try simp only [Act.put, List.setIfInBounds_toArray, List.set_cons_zero, List.set_cons_succ]
        refine wpAnyH_take (i := 4) (oi := { dst := some 76, op := Op.load 32 (Operand.tmp 75), type := 32, pos := _, after := _, guard := none }) (v := ?_) rfl (by kernel_rfl) (by kernel_rfl) (by kernel_rfl) (fun _ _ _ h => h) (Or.inl ⟨rfl, ?_⟩) hHeld ?_
        rotate_left
        · intro w hSw
          obtain ⟨s1, s2, s3, s4, s5, s6, s7, s8, s9, s10, s11, s12, s13⟩ := StpAt.get hSw
          try dsimp only at hSw
          go_simp
          try exact rfl
        try simp only [Act.put, List.setIfInBounds_toArray, List.set_cons_zero, List.set_cons_succ]
        refine wpAnyH_take (i := 6) (oi := { dst := some 78, op := Op.move (Operand.tmp 1), type := 46, pos := _, after := _, guard := none }) (v := ?_) rfl (by kernel_rfl) (by kernel_rfl) (by kernel_rfl) (fun _ _ _ h => h) (Or.inl ⟨rfl, ?_⟩) hHeld ?_
        rotate_left
        · intro w hSw
          obtain ⟨s1, s2, s3, s4, s5, s6, s7, s8, s9, s10, s11, s12, s13⟩ := StpAt.get hSw
          try dsimp only at hSw
          go_simp
          try exact rfl
        try simp only [Act.put, List.setIfInBounds_toArray, List.set_cons_zero, List.set_cons_succ]
        refine wpAnyH_take (i := 7) (oi := { dst := some 79, op := Op.fieldAddr 45 (Operand.tmp 5) 1, type := 0, pos := _, after := _, guard := none }) (v := ?_) rfl (by kernel_rfl) (by kernel_rfl) (by kernel_rfl) (fun _ _ _ h => h) (Or.inl ⟨rfl, ?_⟩) hHeld ?_
        rotate_left
        · intro w hSw
          obtain ⟨s1, s2, s3, s4, s5, s6, s7, s8, s9, s10, s11, s12, s13⟩ := StpAt.get hSw
          try dsimp only at hSw
          go_simp
          try exact rfl
        try simp only [Act.put, List.setIfInBounds_toArray, List.set_cons_zero, List.set_cons_succ]
        refine wpAnyH_take (i := 8) (oi := { dst := some 80, op := Op.load 3 (Operand.tmp 79), type := 3, pos := _, after := _, guard := none }) (v := ?_) rfl (by kernel_rfl) (by kernel_rfl) (by kernel_rfl) (fun _ _ _ h => h) (Or.inl ⟨rfl, ?_⟩) hHeld ?_
        rotate_left
        · intro w hSw
          obtain ⟨s1, s2, s3, s4, s5, s6, s7, s8, s9, s10, s11, s12, s13⟩ := StpAt.get hSw
          try dsimp only at hSw
          go_simp
          try exact rfl
        try simp only [Act.put, List.setIfInBounds_toArray, List.set_cons_zero, List.set_cons_succ]
        refine wpAnyH_take (i := 9) (oi := { dst := some 81, op := Op.fieldAddr 45 (Operand.tmp 5) 2, type := 0, pos := _, after := _, guard := none }) (v := ?_) rfl (by kernel_rfl) (by kernel_rfl) (by kernel_rfl) (fun _ _ _ h => h) (Or.inl ⟨rfl, ?_⟩) hHeld ?_
        rotate_left
        · intro w hSw
          obtain ⟨s1, s2, s3, s4, s5, s6, s7, s8, s9, s10, s11, s12, s13⟩ := StpAt.get hSw
          try dsimp only at hSw
          go_simp
          try exact rfl
        try simp only [Act.put, List.setIfInBounds_toArray, List.set_cons_zero, List.set_cons_succ]
        refine wpAnyH_take (i := 10) (oi := { dst := some 82, op := Op.load 32 (Operand.tmp 81), type := 32, pos := _, after := _, guard := none }) (v := ?_) rfl (by kernel_rfl) (by kernel_rfl) (by kernel_rfl) (fun _ _ _ h => h) (Or.inl ⟨rfl, ?_⟩) hHeld ?_
        rotate_left
        · intro w hSw
          obtain ⟨s1, s2, s3, s4, s5, s6, s7, s8, s9, s10, s11, s12, s13⟩ := StpAt.get hSw
          try dsimp only at hSw
          go_simp
          try exact rfl
        try simp only [Act.put, List.setIfInBounds_toArray, List.set_cons_zero, List.set_cons_succ]
        refine wpAnyH_ready (rs := [5]) (by kernel_rfl) (by simp) ?_
        refine AllReadyH.cons (o := { dst := some 77, op := Op.call { callee := Go.Callee.value (Operand.func 8), args := #[Operand.tmp 72, Operand.tmp 74, Operand.tmp 76], argTypes := #[24, 3, 32] }, type := 27, pos := _, after := _, guard := none }) rfl (fun K hK => ?_) AllReadyH.nil
        rw [if_pos (wanted_none rfl)]
        go_simp
        refine HBS.out.mono ?_
        rintro e w1 ⟨rfl, v1, l1, N1, hb1, hh1, hp1, ht1⟩
        have hS1 : StpAt t s w1 := hHeld.fr ht1.fr (fun hm => HNT.out (HXD.out.mv t hm).1)
        have HR1 := Aside0.mk (HXD.out.ref.fr ht1.fr (fun hm => (HXD.out.mv gm hm).2 rfl) (fun h0 ad e => (HXD.out.row h0 ad e).2))
        have HB1 := Aside0.mk hb1
        have HP1 := Aside0.mk hp1
        have HH1 := Aside0.mk hh1
        have HT1 := Aside0.mk ht1
        have hrr := HRR.out
        rw [HXD.out.len] at hrr
        have HRS := Aside0.mk (show Calls Try.prog 30 #[.pointer (some ⟨gm, 0, none⟩), .int .i64 s.x.nd, .agg #[.int .u16 s.x.id, .int .i64 s.x.len, .int .u8 s.x.x0, .int .u8 s.x.x1, .int .u8 s.x.x2, .int .u8 s.x.x3, .int .u8 s.x.x4, .int .u8 s.x.x5, .int .u8 s.x.x6, .int .u8 s.x.x7, .bool s.x.rem]] w1 _ from rsend_any w1 gm A2 c2 Lk (s.as Nk) r hrr HR1.out (by have := HXD.out.cap; omega) ⟨HXD.out.pp.n0, by show Nk < _; omega⟩)
        have HRR2 := Aside0.mk hrr
        refine hK.out _ _ hS1 (fun hHeld2 => ?_)
        clear hK K hHeld hb1 hp1 hh1 ht1 hS1 hrr HBS
        try simp only [Act.put, List.setIfInBounds_toArray, List.set_cons_zero, List.set_cons_succ]
        refine wpAnyH_ready (rs := [11]) (by kernel_rfl) (by simp) ?_
        refine AllReadyH.cons (o := { dst := some 83, op := Op.call { callee := Go.Callee.value (Operand.func 30), args := #[Operand.tmp 78, Operand.tmp 80, Operand.tmp 82], argTypes := #[46, 3, 32] }, type := 27, pos := _, after := _, guard := none }) rfl (fun K hK => ?_) AllReadyH.nil
        rw [if_pos (wanted_none rfl)]
        go_simp
        refine HRS.out.mono ?_
        rintro e w2 ⟨rfl, A3, c3, L3, N3, hr3, hp3, ht3⟩
        have hS2 : StpAt t s w2 := hHeld2.fr ht3.fr (fun e => HNT.out (by
          have h2 : t = gm := e
          rw [h2]
          exact HXD.out.sm))
        have hcap3 : L3.length ≤ 512 := by
          have hc := HXD.out.cap
          rcases hp3 with ⟨h1, h2, _, _⟩ | ⟨_, h2, _⟩
          · rw [h2, insL_len]
            have h4 := HRR2.out
            unfold sendC at h4
            split at h4
            · omega
            · split at h4
              · omega
              · split at h4
                · omega
                · omega
          · rw [h2]
            exact hc
        have hpp : PairP l1 L3 N3 ∧ N3 = N1 ∧ N1 ≤ Nk + 1 := by
          rcases HP1.out with ⟨h1, h2, h3⟩ | ⟨h1, h2, h3⟩
          · rcases hp3 with ⟨g1, g2, g3, _⟩ | ⟨g1, _⟩
            · have h5 : N1 = Nk + 1 := h3
              have h6 : N3 = Nk + 1 := g3
              refine ⟨?_, h6.trans h5.symm, by omega⟩
              rw [g2, h6]
              exact HXD.out.pp.send (x := s.as Nk) rfl h2
            · exact absurd h1 g1
          · rcases hp3 with ⟨g1, _⟩ | ⟨g1, g2, g3⟩
            · exact absurd g1 h1
            · have h5 : N1 = Nk := h3
              have h6 : N3 = Nk := g3
              refine ⟨?_, h6.trans h5.symm, by omega⟩
              rw [g2, h2, h6]
              exact HXD.out.pp
        obtain ⟨hpp, rfl, hN1⟩ := hpp
        have hstep := HXD.out.step HB1.out HH1.out HT1.out hr3 ht3.fr (fun ad' e h0 => by
          rcases hp3 with ⟨_, _, _, h2⟩ | ⟨_, h2, _⟩
          · exact .inr (h2 ad' e)
          · exact (ht3.own ad' e).imp (fun h1 => ⟨by rw [← h2]; exact h0, h1⟩) id) hpp hcap3
        have HFIN := Aside0.mk (show ∃ S', PairW w2 S' g gm L3 N3 ∧ PTurn S S' W0 w2 from ⟨_, ⟨_, _, _, _, hstep.1⟩, HTD.out.trans hstep.2⟩)
        have HSF := Aside0.mk hS2
        refine hK.out _ _ hS2 (fun hHeld3 => ?_)
        clear hK K hHeld2 hstep hr3 hp3 ht3 hS2 hcap3 hpp HRS
        try simp only [Act.put, List.setIfInBounds_toArray, List.set_cons_zero, List.set_cons_succ]
        refine wpAnyH_take (i := 12) (oi := { dst := some 84, op := Op.binOp Go.BinOp.neq 27 (Operand.tmp 77) (Operand.tmp 83) 27, type := 4, pos := _, after := _, guard := none }) (v := ?_) rfl (by kernel_rfl) (by kernel_rfl) (by kernel_rfl) (fun _ _ _ h => h) (Or.inl ⟨rfl, ?_⟩) hHeld3 ?_
        rotate_left
        · intro w hSw
          try dsimp only at hSw
          go_simp
          try exact rfl
        try simp only [Act.put, List.setIfInBounds_toArray, List.set_cons_zero, List.set_cons_succ]
        refine wpAnyH_done (by kernel_rfl) ?_ _
        obtain ⟨S3, hx3, ht3⟩ := HFIN.out
        have HX3 := Aside0.mk hx3
        have HT3 := Aside0.mk ht3
        clear hHeld3 hx3 ht3
        go_wp2_with (fail)
        go_roundw
        case rel => exact ⟨k + 1, S3, L3, N3, by go_num, by omega, by omega, HX3, HT3, HSF⟩
        case measure => simp [intOf]; omega
      · go_wp2_with (fail)
        go_ret
        exact ⟨rfl, Sk, Lk, Nk, HXK.out, (PTurn.below HW.out).trans HTK.out, by omega⟩
theorem one_any (w : World) (S : Nat → Prop) (g gm : Nat) (L : List Sn) (N : Int) (s : Stp) (h : PairW w S g gm L N) (hN : N ≤ 100000000) :
    Calls Try.prog 16 #[.pointer (some ⟨g, 0, none⟩), .pointer (some ⟨gm, 0, none⟩), .agg #[.int .i64 s.kd, .int .i64 s.x.nd, .int .u16 s.x.id, .int .i64 s.x.len, .int .u8 s.x.x0, .int .u8 s.x.x1, .int .u8 s.x.x2, .int .u8 s.x.x3, .int .u8 s.x.x4, .int .u8 s.x.x5, .int .u8 s.x.x6, .int .u8 s.x.x7, .bool s.x.rem, .int .i64 s.tm]] w (OneSaid S g gm N w) := by
  have hb := pick_bound s.kd 6 (by decide)
  by_cases h1 : pickC s.kd 6 = 0 ∨ pickC s.kd 6 = 1
  · exact one_send w S g gm L N s h h1 hN
  · by_cases h2 : pickC s.kd 6 = 2 ∨ pickC s.kd 6 = 3
    · exact one_next w S g gm L N s h h2
    · by_cases h3 : pickC s.kd 6 = 4
      · exact one_gone w S g gm L N s h h3
      · exact one_copy w S g gm L N s h (by omega)
end Go.Proofs.Ytnjmohdfnicpdaa.Bus
