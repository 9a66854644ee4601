/- TypesSizes, walked. -/
import Derived.Test.YtcgcghldgomelaaGreatDoorYk
import Derived.Test.YtcgcghldgomelaaGreatDoorTbo
import Derived.Deep.RegionHeld3
namespace Go.Proofs.YtcgcghldgomelaaGreatDoor.Mp
open Go.RowKit Go.Shelf Go.Proofs.YtcgcghldgomelaaGreatDoor.Rng Go.Proofs.YtcgcghldgomelaaGreatDoorW.PrintWords Go.Proofs.YtcgcghldgomelaaGreatDoorW.PrintMore Go.Proofs.YtcgcghldgomelaaGreatDoorW.PrintLast

/-- A condition on the world may be made stronger on the way. -/
theorem wpAnyH_strong {P : Program} {md : Region.Mode} {ops : Array Oper} {Q : Exit → Act → World → Prop} {S S' : World → Prop} (hS : ∀ w, S' w → S w) : ∀ (fuel : Nat) (listed : Array Bool) (a : Act) (w : World), wpAnyH P md ops Q S' fuel listed a w → wpAnyH P md ops Q S fuel listed a w
  | 0, _, _, _, h => h
  | fuel + 1, _, _, _, h => ⟨h.1, fun i hi => wpOp_mono (fun a' w' h' => ⟨hS w' h'.1, wpAnyH_strong hS fuel _ a' w' h'.2⟩) (h.2 i hi)⟩
theorem zero_ok : ∀ t ∈ tys, chkC t (List.replicate (siz t).toNat 0) [] [] = 0 := by decide +kernel
theorem byt_rep (n : Nat) : Byt (List.replicate n 0) := fun x hx => by
  have := List.eq_of_mem_replicate hx
  omega
theorem make_n (n : Nat) (hn : n ≤ 1000000) (W : World) : (Instr.makeSlice 22 (.int .i64 n) (.int .i64 n)).run Tryz.prog W = .ok (.slice (some ⟨W.heap.size, 0, none⟩) n n) (W.alloc (.cells (madeCells (Value.int .u8 0).cells (n * 1)) 5)) := by
  have h := info_u8
  cases hi : Tryz.prog.info? 5 with
  | none => rw [hi] at h; cases h
  | some i =>
    rw [hi] at h
    simp only [Option.map_some, Option.some.injEq, Prod.mk.injEq] at h
    obtain ⟨h1, h2, h3⟩ := h
    have := run_makeSlice (P := Tryz.prog) (w := W) 22 5 i (.int .u8 0) Tryz.underlying22 hi h1 .i64 .i64 n n (by omega) (Int.le_refl _) (by rw [h2]; simp; omega) (by rw [h3]; omega) (by omega)
    rw [this, h2]
    rfl
theorem rd_made (W : World) (n : Nat) (hn : n ≤ 1000000) : Rd (W.alloc (.cells (madeCells (Value.int .u8 0).cells (n * 1)) 5)) (some ⟨W.heap.size, 0, none⟩) (List.replicate n 0) := by
  have hc := Go.Proofs.YtcgcghldgomelaaGreatDoorW.PrintWords.blk_cell (blk_new W (.cells (madeCells (Value.int .u8 0).cells (n * 1)) 5))
  refine ⟨by simp; omega, fun _ => ⟨⟨W.heap.size, 0, none⟩, rfl, fun j hj => ?_⟩⟩
  rw [List.length_replicate] at hj
  rw [add_plain, hc j]
  unfold madeCells
  rw [Array.getElem?_eq_getElem (by simp; omega), List.getElem?_eq_getElem (by simpa using hj)]
  simp [Value.cells, Nat.mod_one]
/-- Bytes 0, of their own. -/
theorem zeros_row (t : Int) (ht : 0 ≤ t ∧ t < 256) (n : Nat) (hn : (siz t).toNat = n) (w : World) (h : Tbl w) : Calls Tryz.prog 32 #[.int .u8 t] w fun e w' => ∃ A c, e = .returned (.slice A n c) ∧ Arg w' A c (List.replicate n 0) ∧ (0 < n → ∃ g cells, A = some ⟨g, 0, none⟩ ∧ w.heap.size ≤ g ∧ w'.heap[g]? = some (.cells cells 5 (0, 0))) ∧ Below w.heap.size w w' := by
  refine (zero_any t ht w h).mono ?_
  rw [hn]
  rintro e w' ⟨v, rfl, hR, hb⟩
  obtain ⟨A, c, rfl, ha⟩ := arg_of_R hR (byt_rep n)
  refine ⟨A, c, by rw [List.length_replicate], ha, fun h0 => ?_, hb⟩
  obtain ⟨g, cap, e, h1, h2, cells, h3⟩ := Kd.R_form hR (by simpa using h0)
  injection e with e
  exact ⟨g, cells, e, h1, h3⟩
set_option maxRecDepth 100000 in
set_option maxHeartbeats 8000000 in
theorem sizes_any (t : Int) (ht : 0 ≤ t ∧ t < 256) (w : World) (h : Tbl w) (hT : Tabs w) :
    Calls Tryz.prog 13 #[.int .u8 t] w fun e w' => e = .returned (.bool true) ∧ Below w.heap.size w w' := by
  have hrf : Below w.heap.size w w := Below.refl _ _
  have HW := Aside0.mk fun W (hW : Below w.heap.size w W) => works01_any W (hT.below hW) (h.below hW)
  have HS := Aside0.mk (size_any t ht w h)
  have HRS := Aside0.mk fun W => rsize_any t W
  have HZ := Aside0.mk fun W (hW : Below w.heap.size w W) n hn => zeros_row t ht n hn W (h.below hW)
  have HR := Aside0.mk fun W (hW : Below w.heap.size w W) => right_any t ht W (h.below hW)
  have HRR := Aside0.mk fun W => rright_any t W
  have HK := Aside0.mk fun W A c (b : List Int) (hW : Below w.heap.size w W) (hA : Arg W A c b) => check_any t ht A c b none 0 [] none 0 [] W (h.below hW) hA (arg_nil W) (arg_nil W)
  have hsz := siz_cases t
  obtain ⟨n, hn⟩ : ∃ n, (siz t).toNat = n := ⟨_, rfl⟩
  have hsn : siz t = n := by omega
  have hn8 : n ≤ 8 := by omega
  have HN := Aside0.mk (And.intro hn hn8)
  have HSN := Aside0.mk hsn
  rw [hsn] at HS HRS
  obtain ⟨q, hq⟩ : ∃ q, decide ((0 : Int) < (n : Int)) = q := ⟨_, rfl⟩
  rw [hq] at HS HRS
  have hrr : (knd t != 0) = decide (knd t ≠ 0) := by
    by_cases h : knd t = 0
    · simp [h]
    · simp [h]
  rw [hrr] at HR
  clear h hT hrr
  by_cases hk : knd t = 0
  · have h00 : n = 0 := by
      have := (siz_of t).2.2.2.2.2.2 hk
      omega
    subst h00
    have dk : decide (knd t ≠ 0) = false := decide_eq_false (fun h => h hk)
    rw [dk] at HR HRR
    clear dk hk hq hn hsz
    go_enter Tryz.func13, Tryz.ntmps13
    go_wp2_with (first
      | (go_at_call 31; refine HS.out.mono ?_; rintro e w1 ⟨rfl, hb1⟩; have HB1 := Aside0.mk hb1; clear hb1)
      | (go_at_call 24; refine (HRS.out _).mono ?_; rintro e w2 ⟨rfl, hw⟩; have hw := hw.symm; subst hw)
      | (go_at_call 32; refine (HZ.out _ HB1.out 0 HN.out.1).mono ?_; rintro e w2 ⟨A2, c2, rfl, ha2, hf2, hb2⟩; have HB2 := Aside0.mk (HB1.out.trans (hb2.mono HB1.out.size)); have HA2 := Aside0.mk (And.intro ha2 (And.intro hf2 HB1.out.size)); clear ha2 hf2 hb2)
      | (go_at_call 33; refine (HR.out _ HB2.out).mono ?_; rintro e w3 ⟨rfl, hw⟩; have hw := hw.symm; subst hw)
      | (go_at_call 34; refine (HRR.out _).mono ?_; rintro e w3 ⟨rfl, hw⟩; have hw := hw.symm; subst hw))
    have HB3 := Aside0.mk HB2.out
    go_loopw [8] (fun iv wr => iv = .int .i64 0 ∧ Aside0 (Below w.heap.size w wr)) (fun _ _ => 0)
    case atStart => exact ⟨rfl, ⟨HB2.out⟩⟩
    case round =>
      obtain ⟨rfl, HI⟩ := hrel
      clear HB3
      have HB3 := Aside0.mk HI.out
      clear HI
      go_wp2_with (go_at_call 32; refine (HZ.out _ HB3.out 0 HN.out.1).mono ?_; rintro e w4 ⟨A4, c4, rfl, ha4, -, hb4⟩; have HB4 := Aside0.mk (HB3.out.trans (hb4.mono HB3.out.size)); have HA4 := Aside0.mk ha4; clear ha4 hb4)
      have hS0 : Below w4.heap.size w4 w4.drew := below_drew (Below.refl _ _)
      have u1 : ∀ X, Below w4.heap.size w4 X → (convert 22 9 (.slice A4 0 c4)).run Tryz.prog X = .ok (.string (strOfNums (List.replicate 0 0))) X := fun X hX => by
        have h := str_at (c := c4) (Rd_C HA4.out.rd) X hX
        rw [List.length_replicate] at h
        exact h
      obtain ⟨mc, hmc⟩ : ∃ mc, madeCells (Value.int .u8 0).cells (0 * 1) = mc := ⟨_, rfl⟩
      have hmk : ∀ W : World, (Instr.makeSlice 22 (.int .i64 0) (.int .i64 0)).run Tryz.prog W = .ok (.slice (some ⟨W.heap.size, 0, none⟩) 0 0) (W.alloc (.cells mc 5)) := by
        rw [← hmc]
        exact make_n 0 (by omega)
      have HMC := Aside0.mk hmc
      clear hmc
      refine wp_region_held_drew (S := fun X => Below w4.heap.size w4 X) (by kernel_rfl) hS0 (fun hHeld => ?_)
      generalize w4.drew = wd at hS0 hHeld ⊢
      refine wpAnyH_take (i := 0) (oi := { dst := some 59, op := _, type := _, pos := _, after := _, guard := none }) (v := ?_) rfl (by kernel_rfl) (by kernel_rfl) (by kernel_rfl) (fun _ _ _ h => h) (Or.inl ⟨rfl, ?_⟩) hHeld ?_
      rotate_left
      · intro w hSw
        try dsimp only at hSw
        go_simp
        try exact rfl
      try simp only [Act.put, List.setIfInBounds_toArray, List.set_cons_zero, List.set_cons_succ]
      refine wpAnyH_take (i := 1) (oi := { dst := some 60, op := _, type := _, pos := _, after := _, guard := none }) (v := ?_) rfl (by kernel_rfl) (by kernel_rfl) (by kernel_rfl) (fun _ _ _ h => h) (Or.inl ⟨rfl, ?_⟩) hHeld ?_
      rotate_left
      · intro w hSw
        try dsimp only at hSw
        go_simp
        try exact rfl
      try simp only [Act.put, List.setIfInBounds_toArray, List.set_cons_zero, List.set_cons_succ]
      refine wpAnyH_take (i := 2) (oi := { dst := some 61, op := _, type := _, pos := _, after := _, guard := none }) (v := ?_) rfl (by kernel_rfl) (by kernel_rfl) (by kernel_rfl) (fun _ _ _ h => h) (Or.inl ⟨rfl, ?_⟩) hHeld ?_
      rotate_left
      · intro w hSw
        try dsimp only at hSw
        go_simp
        try exact rfl
      try simp only [Act.put, List.setIfInBounds_toArray, List.set_cons_zero, List.set_cons_succ]
      refine wpAnyH_ready (rs := [3]) (by kernel_rfl) (by simp) ?_
      refine AllReadyH.cons (o := _) rfl (fun K hK => ?_) AllReadyH.nil
      go_simp
      have hS5 : Below w4.heap.size w4 (wd.alloc (.cells mc 5)) := hS0.alloc hS0.size _
      refine hK.out _ _ hS5 (fun _ => ?_)
      clear hK K hmk
      have hr5 := rd_made wd 0 (by omega)
      rw [HMC.out] at hr5
      have HB5 := Aside0.mk (HB4.out.trans (hS5.mono HB4.out.size))
      have HA5 := Aside0.mk (HA4.out.below hS5)
      have HS5 := Aside0.mk hS5
      have HS5 := Aside0.mk hS5
      clear hS0 hS5 hHeld u1
      generalize wd.alloc (.cells mc 5) = w5 at hr5 HB5 HA5 HS5 ⊢
      have u5 : ∀ X, Below w5.heap.size w5 X → (convert 22 9 (.slice (some ⟨wd.heap.size, 0, none⟩) 0 0)).run Tryz.prog X = .ok (.string (strOfNums (List.replicate 0 0))) X := fun X hX => by
        have h := str_at (c := 0) (Rd_C hr5) X hX
        rw [List.length_replicate] at h
        exact h
      refine wpAnyH_strong (S' := fun X => Below w5.heap.size w5 X) (fun X hX => (HS5.out).trans (hX.mono HS5.out.size)) _ _ _ _ ?_
      have hHeld : Below w5.heap.size w5 w5 := Below.refl _ _
      try simp only [Act.put, List.setIfInBounds_toArray, List.set_cons_zero, List.set_cons_succ]
      refine wpAnyH_take (i := 4) (oi := { dst := some 63, op := _, type := _, pos := _, after := _, guard := none }) (v := ?_) rfl (by kernel_rfl) (by kernel_rfl) (by kernel_rfl) (fun _ _ _ h => h) (Or.inl ⟨rfl, ?_⟩) hHeld ?_
      rotate_left
      · intro w hSw
        try dsimp only at hSw
        go_simp
        try exact rfl
      try simp only [Act.put, List.setIfInBounds_toArray, List.set_cons_zero, List.set_cons_succ]
      refine wpAnyH_take (i := 5) (oi := { dst := some 64, op := _, type := _, pos := _, after := _, guard := none }) (v := ?_) rfl (by kernel_rfl) (by kernel_rfl) (by kernel_rfl) (fun _ _ _ h => h) (Or.inl ⟨rfl, ?_⟩) hHeld ?_
      rotate_left
      · intro w hSw
        try dsimp only at hSw
        go_simp
        try exact rfl
      try simp only [Act.put, List.setIfInBounds_toArray, List.set_cons_zero, List.set_cons_succ]
      refine wpAnyH_take (i := 6) (oi := { dst := some 65, op := _, type := _, pos := _, after := _, guard := none }) (v := ?_) rfl (by kernel_rfl) (by kernel_rfl) (by kernel_rfl) (fun _ _ _ h => h) (Or.inl ⟨rfl, ?_⟩) hHeld ?_
      rotate_left
      · intro w hSw
        try dsimp only at hSw
        go_simp
        try exact rfl
      try simp only [Act.put, List.setIfInBounds_toArray, List.set_cons_zero, List.set_cons_succ]
      refine wpAnyH_take (i := 7) (oi := { dst := some 66, op := _, type := _, pos := _, after := _, guard := some (6, true) }) (v := ?_) rfl (by kernel_rfl) (by kernel_rfl) (by kernel_rfl) (fun _ _ _ h => h) (Or.inl ⟨rfl, ?_⟩) hHeld ?_
      rotate_left
      · intro w hSw
        try dsimp only at hSw
        go_simp
        try exact rfl
      try simp only [Act.put, List.setIfInBounds_toArray, List.set_cons_zero, List.set_cons_succ]
      refine wpAnyH_ready (rs := [8]) (by kernel_rfl) (by simp) ?_
      refine AllReadyH.cons (o := _) rfl (fun K hK => ?_) AllReadyH.nil
      go_simp
      with_reducible refine (HR.out w5 HB5.out).mono ?_
      rintro e w6 ⟨rfl, hw⟩
      have hw := hw.symm
      subst hw
      refine hK.out _ _ hHeld (fun _ => ?_)
      clear hK K
      try simp only [Act.put, List.setIfInBounds_toArray, List.set_cons_zero, List.set_cons_succ]
      refine wpAnyH_take (i := 9) (oi := { dst := some 68, op := _, type := _, pos := _, after := _, guard := some (6, true) }) (v := ?_) rfl (by kernel_rfl) (by kernel_rfl) (by kernel_rfl) (fun _ _ _ h => h) (Or.inl ⟨rfl, ?_⟩) hHeld ?_
      rotate_left
      · intro w hSw
        try dsimp only at hSw
        go_simp
        try exact rfl
      try simp only [Act.put, List.setIfInBounds_toArray, List.set_cons_zero, List.set_cons_succ]
      refine wpAnyH_take (i := 10) (oi := { dst := some 69, op := _, type := _, pos := _, after := _, guard := some (6, true) }) (v := ?_) rfl (by kernel_rfl) (by kernel_rfl) (by kernel_rfl) (fun _ _ _ h => h) (Or.inl ⟨rfl, ?_⟩) hHeld ?_
      rotate_left
      · intro w hSw
        try dsimp only at hSw
        go_simp
        try exact rfl
      try simp only [Act.put, List.setIfInBounds_toArray, List.set_cons_zero, List.set_cons_succ]
      refine wpAnyH_take (i := 11) (oi := { dst := some 70, op := _, type := _, pos := _, after := _, guard := some (10, false) }) (v := undef) rfl (by kernel_rfl) (by kernel_rfl) (by kernel_rfl) (fun _ _ _ h => h) (Or.inr ⟨rfl, rfl⟩) hHeld ?_
      try simp only [Act.put, List.setIfInBounds_toArray, List.set_cons_zero, List.set_cons_succ]
      refine wpAnyH_take (i := 12) (oi := { dst := some 71, op := _, type := _, pos := _, after := _, guard := some (10, false) }) (v := undef) rfl (by kernel_rfl) (by kernel_rfl) (by kernel_rfl) (fun _ _ _ h => h) (Or.inr ⟨rfl, rfl⟩) hHeld ?_
      try simp only [Act.put, List.setIfInBounds_toArray, List.set_cons_zero, List.set_cons_succ]
      refine wpAnyH_take (i := 13) (oi := { dst := some 72, op := _, type := _, pos := _, after := _, guard := some (10, false) }) (v := undef) rfl (by kernel_rfl) (by kernel_rfl) (by kernel_rfl) (fun _ _ _ h => h) (Or.inr ⟨rfl, rfl⟩) hHeld ?_
      try simp only [Act.put, List.setIfInBounds_toArray, List.set_cons_zero, List.set_cons_succ]
      refine wpAnyH_take (i := 14) (oi := { dst := some 73, op := _, type := _, pos := _, after := _, guard := some (10, false) }) (v := undef) rfl (by kernel_rfl) (by kernel_rfl) (by kernel_rfl) (fun _ _ _ h => h) (Or.inr ⟨rfl, rfl⟩) hHeld ?_
      try simp only [Act.put, List.setIfInBounds_toArray, List.set_cons_zero, List.set_cons_succ]
      have HB6 := HB5
      refine wpAnyH_take (i := 15) (oi := { dst := some 74, op := _, type := _, pos := _, after := _, guard := some (6, true) }) (v := ?_) rfl (by kernel_rfl) (by kernel_rfl) (by kernel_rfl) (fun _ _ _ h => h) (Or.inl ⟨rfl, ?_⟩) hHeld ?_
      rotate_left
      · intro w hSw
        try dsimp only at hSw
        go_simp
        try exact rfl
      try simp only [Act.put, List.setIfInBounds_toArray, List.set_cons_zero, List.set_cons_succ]
      refine wpAnyH_take (i := 16) (oi := { dst := some 75, op := _, type := _, pos := _, after := _, guard := none }) (v := ?_) rfl (by kernel_rfl) (by kernel_rfl) (by kernel_rfl) (fun _ _ _ h => h) (Or.inl ⟨rfl, ?_⟩) hHeld ?_
      rotate_left
      · intro w hSw
        try dsimp only at hSw
        go_simp
        try exact rfl
      try simp only [Act.put, List.setIfInBounds_toArray, List.set_cons_zero, List.set_cons_succ]
      refine wpAnyH_take (i := 17) (oi := { dst := some 76, op := _, type := _, pos := _, after := _, guard := none }) (v := ?_) rfl (by kernel_rfl) (by kernel_rfl) (by kernel_rfl) (fun _ _ _ h => h) (Or.inl ⟨rfl, ?_⟩) hHeld ?_
      rotate_left
      · intro w hSw
        try dsimp only at hSw
        go_simp
        try exact rfl
      try simp only [Act.put, List.setIfInBounds_toArray, List.set_cons_zero, List.set_cons_succ]
      refine wpAnyH_ready (rs := [18]) (by kernel_rfl) (by simp) ?_
      refine AllReadyH.cons (o := _) rfl (fun K hK => ?_) AllReadyH.nil
      go_simp
      refine (HW.out w5 HB6.out).mono ?_
      rintro e w7 ⟨rfl, hb7⟩
      have HB7 := Aside0.mk (HB6.out.trans (hb7.mono HB6.out.size))
      refine hK.out _ _ (hHeld.trans (hb7.mono hHeld.size)) (fun hHeld7 => ?_)
      clear hK K hb7
      try simp only [Act.put, List.setIfInBounds_toArray, List.set_cons_zero, List.set_cons_succ]
      refine wpAnyH_take (i := 19) (oi := { dst := some 78, op := _, type := _, pos := _, after := _, guard := none }) (v := ?_) rfl (by kernel_rfl) (by kernel_rfl) (by kernel_rfl) (fun _ _ _ h => h) (Or.inl ⟨rfl, ?_⟩) hHeld7 ?_
      rotate_left
      · intro w hSw
        try dsimp only at hSw
        go_simp
        try exact rfl
      try simp only [Act.put, List.setIfInBounds_toArray, List.set_cons_zero, List.set_cons_succ]
      refine wpAnyH_take (i := 20) (oi := { dst := some 2, op := _, type := _, pos := _, after := _, guard := none }) (v := ?_) rfl (by kernel_rfl) (by kernel_rfl) (by kernel_rfl) (fun _ _ _ h => h) (Or.inl ⟨rfl, ?_⟩) hHeld7 ?_
      rotate_left
      · intro w hSw
        try dsimp only at hSw
        go_simp
        try exact rfl
      try simp only [Act.put, List.setIfInBounds_toArray, List.set_cons_zero, List.set_cons_succ]
      refine wpAnyH_done (by kernel_rfl) ?_ _
      clear u5
      go_wp2
      go_ret
      exact ⟨rfl, HB7.out⟩
  · have hck : chkC t (List.replicate n 0) [] [] = 0 := by rw [← hn]; exact zero_ok t (tys_all hk)
    have dk : decide (knd t ≠ 0) = true := decide_eq_true hk
    rw [dk] at HR HRR
    have HCK := Aside0.mk hck
    clear hck dk hk hq hn hsz
    rcases Nat.eq_zero_or_pos n with h0 | h0
    · subst h0
      go_enter Tryz.func13, Tryz.ntmps13
      go_wp2_with (first
        | (go_at_call 31; refine HS.out.mono ?_; rintro e w1 ⟨rfl, hb1⟩; have HB1 := Aside0.mk hb1; clear hb1)
        | (go_at_call 24; refine (HRS.out _).mono ?_; rintro e w2 ⟨rfl, hw⟩; have hw := hw.symm; subst hw)
        | (go_at_call 32; refine (HZ.out _ HB1.out 0 HN.out.1).mono ?_; rintro e w2 ⟨A2, c2, rfl, ha2, hf2, hb2⟩; have HB2 := Aside0.mk (HB1.out.trans (hb2.mono HB1.out.size)); have HA2 := Aside0.mk (And.intro ha2 (And.intro hf2 HB1.out.size)); clear ha2 hf2 hb2)
        | (go_at_call 33; refine (HR.out _ HB2.out).mono ?_; rintro e w3 ⟨rfl, hw⟩; have hw := hw.symm; subst hw)
        | (go_at_call 34; refine (HRR.out _).mono ?_; rintro e w3 ⟨rfl, hw⟩; have hw := hw.symm; subst hw))
      have HB3 := Aside0.mk HB2.out
      go_loopw [8] (fun iv wr => iv = .int .i64 0 ∧ Aside0 (Below w.heap.size w wr)) (fun _ _ => 0)
      case atStart => exact ⟨rfl, ⟨HB2.out⟩⟩
      case round =>
        obtain ⟨rfl, HI⟩ := hrel
        clear HB3
        have HB3 := Aside0.mk HI.out
        clear HI
        go_wp2_with (go_at_call 32; refine (HZ.out _ HB3.out 0 HN.out.1).mono ?_; rintro e w4 ⟨A4, c4, rfl, ha4, -, hb4⟩; have HB4 := Aside0.mk (HB3.out.trans (hb4.mono HB3.out.size)); have HA4 := Aside0.mk ha4; clear ha4 hb4)
        have hS0 : Below w4.heap.size w4 w4.drew := below_drew (Below.refl _ _)
        have u1 : ∀ X, Below w4.heap.size w4 X → (convert 22 9 (.slice A4 0 c4)).run Tryz.prog X = .ok (.string (strOfNums (List.replicate 0 0))) X := fun X hX => by
          have h := str_at (c := c4) (Rd_C HA4.out.rd) X hX
          rw [List.length_replicate] at h
          exact h
        obtain ⟨mc, hmc⟩ : ∃ mc, madeCells (Value.int .u8 0).cells (0 * 1) = mc := ⟨_, rfl⟩
        have hmk : ∀ W : World, (Instr.makeSlice 22 (.int .i64 0) (.int .i64 0)).run Tryz.prog W = .ok (.slice (some ⟨W.heap.size, 0, none⟩) 0 0) (W.alloc (.cells mc 5)) := by
          rw [← hmc]
          exact make_n 0 (by omega)
        have HMC := Aside0.mk hmc
        clear hmc
        refine wp_region_held_drew (S := fun X => Below w4.heap.size w4 X) (by kernel_rfl) hS0 (fun hHeld => ?_)
        generalize w4.drew = wd at hS0 hHeld ⊢
        refine wpAnyH_take (i := 0) (oi := { dst := some 59, op := _, type := _, pos := _, after := _, guard := none }) (v := ?_) rfl (by kernel_rfl) (by kernel_rfl) (by kernel_rfl) (fun _ _ _ h => h) (Or.inl ⟨rfl, ?_⟩) hHeld ?_
        rotate_left
        · intro w hSw
          try dsimp only at hSw
          go_simp
          try exact rfl
        try simp only [Act.put, List.setIfInBounds_toArray, List.set_cons_zero, List.set_cons_succ]
        refine wpAnyH_take (i := 1) (oi := { dst := some 60, op := _, type := _, pos := _, after := _, guard := none }) (v := ?_) rfl (by kernel_rfl) (by kernel_rfl) (by kernel_rfl) (fun _ _ _ h => h) (Or.inl ⟨rfl, ?_⟩) hHeld ?_
        rotate_left
        · intro w hSw
          try dsimp only at hSw
          go_simp
          try exact rfl
        try simp only [Act.put, List.setIfInBounds_toArray, List.set_cons_zero, List.set_cons_succ]
        refine wpAnyH_take (i := 2) (oi := { dst := some 61, op := _, type := _, pos := _, after := _, guard := none }) (v := ?_) rfl (by kernel_rfl) (by kernel_rfl) (by kernel_rfl) (fun _ _ _ h => h) (Or.inl ⟨rfl, ?_⟩) hHeld ?_
        rotate_left
        · intro w hSw
          try dsimp only at hSw
          go_simp
          try exact rfl
        try simp only [Act.put, List.setIfInBounds_toArray, List.set_cons_zero, List.set_cons_succ]
        refine wpAnyH_ready (rs := [3]) (by kernel_rfl) (by simp) ?_
        refine AllReadyH.cons (o := _) rfl (fun K hK => ?_) AllReadyH.nil
        go_simp
        have hS5 : Below w4.heap.size w4 (wd.alloc (.cells mc 5)) := hS0.alloc hS0.size _
        refine hK.out _ _ hS5 (fun _ => ?_)
        clear hK K hmk
        have hr5 := rd_made wd 0 (by omega)
        rw [HMC.out] at hr5
        have HB5 := Aside0.mk (HB4.out.trans (hS5.mono HB4.out.size))
        have HA5 := Aside0.mk (HA4.out.below hS5)
        have HS5 := Aside0.mk hS5
        have HS5 := Aside0.mk hS5
        clear hS0 hS5 hHeld u1
        generalize wd.alloc (.cells mc 5) = w5 at hr5 HB5 HA5 HS5 ⊢
        have u5 : ∀ X, Below w5.heap.size w5 X → (convert 22 9 (.slice (some ⟨wd.heap.size, 0, none⟩) 0 0)).run Tryz.prog X = .ok (.string (strOfNums (List.replicate 0 0))) X := fun X hX => by
          have h := str_at (c := 0) (Rd_C hr5) X hX
          rw [List.length_replicate] at h
          exact h
        refine wpAnyH_strong (S' := fun X => Below w5.heap.size w5 X) (fun X hX => (HS5.out).trans (hX.mono HS5.out.size)) _ _ _ _ ?_
        have hHeld : Below w5.heap.size w5 w5 := Below.refl _ _
        try simp only [Act.put, List.setIfInBounds_toArray, List.set_cons_zero, List.set_cons_succ]
        refine wpAnyH_take (i := 4) (oi := { dst := some 63, op := _, type := _, pos := _, after := _, guard := none }) (v := ?_) rfl (by kernel_rfl) (by kernel_rfl) (by kernel_rfl) (fun _ _ _ h => h) (Or.inl ⟨rfl, ?_⟩) hHeld ?_
        rotate_left
        · intro w hSw
          try dsimp only at hSw
          go_simp
          try exact rfl
        try simp only [Act.put, List.setIfInBounds_toArray, List.set_cons_zero, List.set_cons_succ]
        refine wpAnyH_take (i := 5) (oi := { dst := some 64, op := _, type := _, pos := _, after := _, guard := none }) (v := ?_) rfl (by kernel_rfl) (by kernel_rfl) (by kernel_rfl) (fun _ _ _ h => h) (Or.inl ⟨rfl, ?_⟩) hHeld ?_
        rotate_left
        · intro w hSw
          try dsimp only at hSw
          go_simp
          try exact rfl
        try simp only [Act.put, List.setIfInBounds_toArray, List.set_cons_zero, List.set_cons_succ]
        refine wpAnyH_take (i := 6) (oi := { dst := some 65, op := _, type := _, pos := _, after := _, guard := none }) (v := ?_) rfl (by kernel_rfl) (by kernel_rfl) (by kernel_rfl) (fun _ _ _ h => h) (Or.inl ⟨rfl, ?_⟩) hHeld ?_
        rotate_left
        · intro w hSw
          try dsimp only at hSw
          go_simp
          try exact rfl
        try simp only [Act.put, List.setIfInBounds_toArray, List.set_cons_zero, List.set_cons_succ]
        refine wpAnyH_take (i := 7) (oi := { dst := some 66, op := _, type := _, pos := _, after := _, guard := some (6, true) }) (v := ?_) rfl (by kernel_rfl) (by kernel_rfl) (by kernel_rfl) (fun _ _ _ h => h) (Or.inl ⟨rfl, ?_⟩) hHeld ?_
        rotate_left
        · intro w hSw
          try dsimp only at hSw
          go_simp
          try exact rfl
        try simp only [Act.put, List.setIfInBounds_toArray, List.set_cons_zero, List.set_cons_succ]
        refine wpAnyH_ready (rs := [8]) (by kernel_rfl) (by simp) ?_
        refine AllReadyH.cons (o := _) rfl (fun K hK => ?_) AllReadyH.nil
        go_simp
        with_reducible refine (HR.out w5 HB5.out).mono ?_
        rintro e w6 ⟨rfl, hw⟩
        have hw := hw.symm
        subst hw
        refine hK.out _ _ hHeld (fun _ => ?_)
        clear hK K
        try simp only [Act.put, List.setIfInBounds_toArray, List.set_cons_zero, List.set_cons_succ]
        refine wpAnyH_take (i := 9) (oi := { dst := some 68, op := _, type := _, pos := _, after := _, guard := some (6, true) }) (v := ?_) rfl (by kernel_rfl) (by kernel_rfl) (by kernel_rfl) (fun _ _ _ h => h) (Or.inl ⟨rfl, ?_⟩) hHeld ?_
        rotate_left
        · intro w hSw
          try dsimp only at hSw
          go_simp
          try exact rfl
        try simp only [Act.put, List.setIfInBounds_toArray, List.set_cons_zero, List.set_cons_succ]
        refine wpAnyH_take (i := 10) (oi := { dst := some 69, op := _, type := _, pos := _, after := _, guard := some (6, true) }) (v := ?_) rfl (by kernel_rfl) (by kernel_rfl) (by kernel_rfl) (fun _ _ _ h => h) (Or.inl ⟨rfl, ?_⟩) hHeld ?_
        rotate_left
        · intro w hSw
          try dsimp only at hSw
          go_simp
          try exact rfl
        try simp only [Act.put, List.setIfInBounds_toArray, List.set_cons_zero, List.set_cons_succ]
        refine wpAnyH_take (i := 11) (oi := { dst := some 70, op := _, type := _, pos := _, after := _, guard := some (10, false) }) (v := ?_) rfl (by kernel_rfl) (by kernel_rfl) (by kernel_rfl) (fun _ _ _ h => h) (Or.inl ⟨rfl, ?_⟩) hHeld ?_
        rotate_left
        · intro w hSw
          try dsimp only at hSw
          go_simp
          try exact rfl
        try simp only [Act.put, List.setIfInBounds_toArray, List.set_cons_zero, List.set_cons_succ]
        refine wpAnyH_take (i := 12) (oi := { dst := some 71, op := _, type := _, pos := _, after := _, guard := some (10, false) }) (v := ?_) rfl (by kernel_rfl) (by kernel_rfl) (by kernel_rfl) (fun _ _ _ h => h) (Or.inl ⟨rfl, ?_⟩) hHeld ?_
        rotate_left
        · intro w hSw
          try dsimp only at hSw
          go_simp
          try exact rfl
        try simp only [Act.put, List.setIfInBounds_toArray, List.set_cons_zero, List.set_cons_succ]
        refine wpAnyH_ready (rs := [13]) (by kernel_rfl) (by simp) ?_
        refine AllReadyH.cons (o := _) rfl (fun K hK => ?_) AllReadyH.nil
        go_simp
        have hkk := HK.out w5 A4 c4 (List.replicate 0 0) HB5.out HA5.out
        rw [HCK.out, List.length_replicate] at hkk
        refine hkk.mono ?_
        clear hkk
        rintro e w6 ⟨rfl, hb6⟩
        have HB6 := Aside0.mk (HB5.out.trans (hb6.mono HB5.out.size))
        refine hK.out _ _ hb6 (fun hHeld6 => ?_)
        clear hK K hb6
        try simp only [Act.put, List.setIfInBounds_toArray, List.set_cons_zero, List.set_cons_succ]
        refine wpAnyH_take (i := 14) (oi := { dst := some 73, op := _, type := _, pos := _, after := _, guard := some (10, false) }) (v := ?_) rfl (by kernel_rfl) (by kernel_rfl) (by kernel_rfl) (fun _ _ _ h => h) (Or.inl ⟨rfl, ?_⟩) hHeld6 ?_
        rotate_left
        · intro w hSw
          try dsimp only at hSw
          go_simp
          try exact rfl
        try simp only [Act.put, List.setIfInBounds_toArray, List.set_cons_zero, List.set_cons_succ]
        refine wpAnyH_take (i := 15) (oi := { dst := some 74, op := _, type := _, pos := _, after := _, guard := some (6, true) }) (v := ?_) rfl (by kernel_rfl) (by kernel_rfl) (by kernel_rfl) (fun _ _ _ h => h) (Or.inl ⟨rfl, ?_⟩) hHeld6 ?_
        rotate_left
        · intro w hSw
          try dsimp only at hSw
          go_simp
          try exact rfl
        try simp only [Act.put, List.setIfInBounds_toArray, List.set_cons_zero, List.set_cons_succ]
        refine wpAnyH_take (i := 16) (oi := { dst := some 75, op := _, type := _, pos := _, after := _, guard := none }) (v := ?_) rfl (by kernel_rfl) (by kernel_rfl) (by kernel_rfl) (fun _ _ _ h => h) (Or.inl ⟨rfl, ?_⟩) hHeld6 ?_
        rotate_left
        · intro w hSw
          try dsimp only at hSw
          go_simp
          try exact rfl
        try simp only [Act.put, List.setIfInBounds_toArray, List.set_cons_zero, List.set_cons_succ]
        refine wpAnyH_take (i := 17) (oi := { dst := some 76, op := _, type := _, pos := _, after := _, guard := none }) (v := ?_) rfl (by kernel_rfl) (by kernel_rfl) (by kernel_rfl) (fun _ _ _ h => h) (Or.inl ⟨rfl, ?_⟩) hHeld6 ?_
        rotate_left
        · intro w hSw
          try dsimp only at hSw
          go_simp
          try exact rfl
        try simp only [Act.put, List.setIfInBounds_toArray, List.set_cons_zero, List.set_cons_succ]
        refine wpAnyH_ready (rs := [18]) (by kernel_rfl) (by simp) ?_
        refine AllReadyH.cons (o := _) rfl (fun K hK => ?_) AllReadyH.nil
        go_simp
        refine (HW.out w6 HB6.out).mono ?_
        rintro e w7 ⟨rfl, hb7⟩
        have HB7 := Aside0.mk (HB6.out.trans (hb7.mono HB6.out.size))
        refine hK.out _ _ (hHeld6.trans (hb7.mono hHeld6.size)) (fun hHeld7 => ?_)
        clear hK K hb7
        try simp only [Act.put, List.setIfInBounds_toArray, List.set_cons_zero, List.set_cons_succ]
        refine wpAnyH_take (i := 19) (oi := { dst := some 78, op := _, type := _, pos := _, after := _, guard := none }) (v := ?_) rfl (by kernel_rfl) (by kernel_rfl) (by kernel_rfl) (fun _ _ _ h => h) (Or.inl ⟨rfl, ?_⟩) hHeld7 ?_
        rotate_left
        · intro w hSw
          try dsimp only at hSw
          go_simp
          try exact rfl
        try simp only [Act.put, List.setIfInBounds_toArray, List.set_cons_zero, List.set_cons_succ]
        refine wpAnyH_take (i := 20) (oi := { dst := some 2, op := _, type := _, pos := _, after := _, guard := none }) (v := ?_) rfl (by kernel_rfl) (by kernel_rfl) (by kernel_rfl) (fun _ _ _ h => h) (Or.inl ⟨rfl, ?_⟩) hHeld7 ?_
        rotate_left
        · intro w hSw
          try dsimp only at hSw
          go_simp
          try exact rfl
        try simp only [Act.put, List.setIfInBounds_toArray, List.set_cons_zero, List.set_cons_succ]
        refine wpAnyH_done (by kernel_rfl) ?_ _
        clear u5
        go_wp2
        go_ret
        exact ⟨rfl, HB7.out⟩
    · go_enter Tryz.func13, Tryz.ntmps13
      go_wp2_with (first
        | (go_at_call 31; refine HS.out.mono ?_; rintro e w1 ⟨rfl, hb1⟩; have HB1 := Aside0.mk hb1; clear hb1)
        | (go_at_call 24; refine (HRS.out _).mono ?_; rintro e w2 ⟨rfl, hw⟩; have hw := hw.symm; subst hw)
        | (go_at_call 32; refine (HZ.out _ HB1.out n HN.out.1).mono ?_; rintro e w2 ⟨A2, c2, rfl, ha2, hf2, hb2⟩; have HB2 := Aside0.mk (HB1.out.trans (hb2.mono HB1.out.size)); have HA2 := Aside0.mk (And.intro ha2 (And.intro hf2 HB1.out.size)); clear ha2 hf2 hb2)
        | (go_at_call 33; refine (HR.out _ HB2.out).mono ?_; rintro e w3 ⟨rfl, hw⟩; have hw := hw.symm; subst hw)
        | (go_at_call 34; refine (HRR.out _).mono ?_; rintro e w3 ⟨rfl, hw⟩; have hw := hw.symm; subst hw))
      obtain ⟨g, cells, rfl, hg, hcl⟩ := HA2.out.2.1 h0
      have HG := Aside0.mk (show w.heap.size ≤ g from Nat.le_trans HB1.out.size hg)
      have HC0 := Aside0.mk (show ∀ j : Nat, 0 ≤ j → j < n → w2.cell? ⟨g, j, none⟩ = some (.int .u8 0) ∧ w2.frozen? ⟨g, j, none⟩ = false from fun j _ hj => by
        obtain ⟨ad, e, hc⟩ := HA2.out.1.rd.2 (by simpa using h0)
        injection e with e
        subst e
        have h1 := hc j (by simpa using hj)
        rw [add_plain, List.getElem?_eq_getElem (by simpa using hj)] at h1
        simp only [List.getElem_replicate, Option.getD_some] at h1
        exact ⟨h1, Go.Proofs.YtcgcghldgomelaaGreatDoorW.PrintWords.blk_frozen hcl j⟩)
      clear hg hcl HA2
      go_loopw [8] (fun iv wr => ∃ k : Nat, k ≤ n ∧ iv = .int .i64 k ∧ Aside0 ((∀ j : Nat, k ≤ j → j < n → wr.cell? ⟨g, j, none⟩ = some (.int .u8 0) ∧ wr.frozen? ⟨g, j, none⟩ = false) ∧ Below w.heap.size w wr)) (fun iv _ => n - (intOf iv).toNat)
      case atStart => exact ⟨0, by omega, rfl, ⟨HC0.out, HB2.out⟩⟩
      case round =>
        obtain ⟨k, hk, rfl, HI⟩ := hrel
        by_cases hlt : k < n
        · have hi1 : (k : Int) < (n : Int) := by omega
          obtain ⟨c0, f0⟩ := HI.out.1 k (Nat.le_refl _) hlt
          go_wp2
          go_roundw
          case rel => exact ⟨k + 1, by omega, by go_num, ⟨fun j h1 h2 => by
            rw [World.cell?_setCell_other _ _ _ _ (by intro e; injection e with _ e _; omega), World.frozen?_setCell]
            exact HI.out.1 j (by omega) h2, HI.out.2.setCell HG.out _⟩⟩
          case measure => simp [intOf]; omega
        · obtain rfl : k = n := by omega
          have hi1 : ¬ (k : Int) < (k : Int) := by omega
          have HB3 := Aside0.mk HI.out.2
          clear HI HC0 HB2
          go_wp2_with (go_at_call 32; refine (HZ.out _ HB3.out k HN.out.1).mono ?_; rintro e w4 ⟨A4, c4, rfl, ha4, -, hb4⟩; have HB4 := Aside0.mk (HB3.out.trans (hb4.mono HB3.out.size)); have HA4 := Aside0.mk ha4; clear ha4 hb4)
          have hS0 : Below w4.heap.size w4 w4.drew := below_drew (Below.refl _ _)
          have u1 : ∀ X, Below w4.heap.size w4 X → (convert 22 9 (.slice A4 k c4)).run Tryz.prog X = .ok (.string (strOfNums (List.replicate k 0))) X := fun X hX => by
            have h := str_at (c := c4) (Rd_C HA4.out.rd) X hX
            rw [List.length_replicate] at h
            exact h
          obtain ⟨mc, hmc⟩ : ∃ mc, madeCells (Value.int .u8 0).cells (k * 1) = mc := ⟨_, rfl⟩
          have hmk : ∀ W : World, (Instr.makeSlice 22 (.int .i64 k) (.int .i64 k)).run Tryz.prog W = .ok (.slice (some ⟨W.heap.size, 0, none⟩) k k) (W.alloc (.cells mc 5)) := by
            rw [← hmc]
            exact make_n k (by omega)
          have HMC := Aside0.mk hmc
          clear hmc
          refine wp_region_held_drew (S := fun X => Below w4.heap.size w4 X) (by kernel_rfl) hS0 (fun hHeld => ?_)
          generalize w4.drew = wd at hS0 hHeld ⊢
          refine wpAnyH_take (i := 0) (oi := { dst := some 59, op := _, type := _, pos := _, after := _, guard := none }) (v := ?_) rfl (by kernel_rfl) (by kernel_rfl) (by kernel_rfl) (fun _ _ _ h => h) (Or.inl ⟨rfl, ?_⟩) hHeld ?_
          rotate_left
          · intro w hSw
            try dsimp only at hSw
            go_simp
            try exact rfl
          try simp only [Act.put, List.setIfInBounds_toArray, List.set_cons_zero, List.set_cons_succ]
          refine wpAnyH_take (i := 1) (oi := { dst := some 60, op := _, type := _, pos := _, after := _, guard := none }) (v := ?_) rfl (by kernel_rfl) (by kernel_rfl) (by kernel_rfl) (fun _ _ _ h => h) (Or.inl ⟨rfl, ?_⟩) hHeld ?_
          rotate_left
          · intro w hSw
            try dsimp only at hSw
            go_simp
            try exact rfl
          try simp only [Act.put, List.setIfInBounds_toArray, List.set_cons_zero, List.set_cons_succ]
          refine wpAnyH_take (i := 2) (oi := { dst := some 61, op := _, type := _, pos := _, after := _, guard := none }) (v := ?_) rfl (by kernel_rfl) (by kernel_rfl) (by kernel_rfl) (fun _ _ _ h => h) (Or.inl ⟨rfl, ?_⟩) hHeld ?_
          rotate_left
          · intro w hSw
            try dsimp only at hSw
            go_simp
            try exact rfl
          try simp only [Act.put, List.setIfInBounds_toArray, List.set_cons_zero, List.set_cons_succ]
          refine wpAnyH_ready (rs := [3]) (by kernel_rfl) (by simp) ?_
          refine AllReadyH.cons (o := _) rfl (fun K hK => ?_) AllReadyH.nil
          go_simp
          have hS5 : Below w4.heap.size w4 (wd.alloc (.cells mc 5)) := hS0.alloc hS0.size _
          refine hK.out _ _ hS5 (fun _ => ?_)
          clear hK K hmk
          have hr5 := rd_made wd k (by omega)
          rw [HMC.out] at hr5
          have HB5 := Aside0.mk (HB4.out.trans (hS5.mono HB4.out.size))
          have HA5 := Aside0.mk (HA4.out.below hS5)
          have HS5 := Aside0.mk hS5
          have HS5 := Aside0.mk hS5
          clear hS0 hS5 hHeld u1
          generalize wd.alloc (.cells mc 5) = w5 at hr5 HB5 HA5 HS5 ⊢
          have u5 : ∀ X, Below w5.heap.size w5 X → (convert 22 9 (.slice (some ⟨wd.heap.size, 0, none⟩) k k)).run Tryz.prog X = .ok (.string (strOfNums (List.replicate k 0))) X := fun X hX => by
            have h := str_at (c := k) (Rd_C hr5) X hX
            rw [List.length_replicate] at h
            exact h
          refine wpAnyH_strong (S' := fun X => Below w5.heap.size w5 X) (fun X hX => (HS5.out).trans (hX.mono HS5.out.size)) _ _ _ _ ?_
          have hHeld : Below w5.heap.size w5 w5 := Below.refl _ _
          try simp only [Act.put, List.setIfInBounds_toArray, List.set_cons_zero, List.set_cons_succ]
          refine wpAnyH_take (i := 4) (oi := { dst := some 63, op := _, type := _, pos := _, after := _, guard := none }) (v := ?_) rfl (by kernel_rfl) (by kernel_rfl) (by kernel_rfl) (fun _ _ _ h => h) (Or.inl ⟨rfl, ?_⟩) hHeld ?_
          rotate_left
          · intro w hSw
            try dsimp only at hSw
            go_simp
            try exact rfl
          try simp only [Act.put, List.setIfInBounds_toArray, List.set_cons_zero, List.set_cons_succ]
          refine wpAnyH_take (i := 5) (oi := { dst := some 64, op := _, type := _, pos := _, after := _, guard := none }) (v := ?_) rfl (by kernel_rfl) (by kernel_rfl) (by kernel_rfl) (fun _ _ _ h => h) (Or.inl ⟨rfl, ?_⟩) hHeld ?_
          rotate_left
          · intro w hSw
            try dsimp only at hSw
            go_simp
            try exact rfl
          try simp only [Act.put, List.setIfInBounds_toArray, List.set_cons_zero, List.set_cons_succ]
          refine wpAnyH_take (i := 6) (oi := { dst := some 65, op := _, type := _, pos := _, after := _, guard := none }) (v := ?_) rfl (by kernel_rfl) (by kernel_rfl) (by kernel_rfl) (fun _ _ _ h => h) (Or.inl ⟨rfl, ?_⟩) hHeld ?_
          rotate_left
          · intro w hSw
            try dsimp only at hSw
            go_simp
            try exact rfl
          try simp only [Act.put, List.setIfInBounds_toArray, List.set_cons_zero, List.set_cons_succ]
          refine wpAnyH_take (i := 7) (oi := { dst := some 66, op := _, type := _, pos := _, after := _, guard := some (6, true) }) (v := ?_) rfl (by kernel_rfl) (by kernel_rfl) (by kernel_rfl) (fun _ _ _ h => h) (Or.inl ⟨rfl, ?_⟩) hHeld ?_
          rotate_left
          · intro w hSw
            try dsimp only at hSw
            go_simp
            try exact rfl
          try simp only [Act.put, List.setIfInBounds_toArray, List.set_cons_zero, List.set_cons_succ]
          refine wpAnyH_ready (rs := [8]) (by kernel_rfl) (by simp) ?_
          refine AllReadyH.cons (o := _) rfl (fun K hK => ?_) AllReadyH.nil
          go_simp
          with_reducible refine (HR.out w5 HB5.out).mono ?_
          rintro e w6 ⟨rfl, hw⟩
          have hw := hw.symm
          subst hw
          refine hK.out _ _ hHeld (fun _ => ?_)
          clear hK K
          try simp only [Act.put, List.setIfInBounds_toArray, List.set_cons_zero, List.set_cons_succ]
          refine wpAnyH_take (i := 9) (oi := { dst := some 68, op := _, type := _, pos := _, after := _, guard := some (6, true) }) (v := ?_) rfl (by kernel_rfl) (by kernel_rfl) (by kernel_rfl) (fun _ _ _ h => h) (Or.inl ⟨rfl, ?_⟩) hHeld ?_
          rotate_left
          · intro w hSw
            try dsimp only at hSw
            go_simp
            try exact rfl
          try simp only [Act.put, List.setIfInBounds_toArray, List.set_cons_zero, List.set_cons_succ]
          refine wpAnyH_take (i := 10) (oi := { dst := some 69, op := _, type := _, pos := _, after := _, guard := some (6, true) }) (v := ?_) rfl (by kernel_rfl) (by kernel_rfl) (by kernel_rfl) (fun _ _ _ h => h) (Or.inl ⟨rfl, ?_⟩) hHeld ?_
          rotate_left
          · intro w hSw
            try dsimp only at hSw
            go_simp
            try exact rfl
          try simp only [Act.put, List.setIfInBounds_toArray, List.set_cons_zero, List.set_cons_succ]
          refine wpAnyH_take (i := 11) (oi := { dst := some 70, op := _, type := _, pos := _, after := _, guard := some (10, false) }) (v := ?_) rfl (by kernel_rfl) (by kernel_rfl) (by kernel_rfl) (fun _ _ _ h => h) (Or.inl ⟨rfl, ?_⟩) hHeld ?_
          rotate_left
          · intro w hSw
            try dsimp only at hSw
            go_simp
            try exact rfl
          try simp only [Act.put, List.setIfInBounds_toArray, List.set_cons_zero, List.set_cons_succ]
          refine wpAnyH_take (i := 12) (oi := { dst := some 71, op := _, type := _, pos := _, after := _, guard := some (10, false) }) (v := ?_) rfl (by kernel_rfl) (by kernel_rfl) (by kernel_rfl) (fun _ _ _ h => h) (Or.inl ⟨rfl, ?_⟩) hHeld ?_
          rotate_left
          · intro w hSw
            try dsimp only at hSw
            go_simp
            try exact rfl
          try simp only [Act.put, List.setIfInBounds_toArray, List.set_cons_zero, List.set_cons_succ]
          refine wpAnyH_ready (rs := [13]) (by kernel_rfl) (by simp) ?_
          refine AllReadyH.cons (o := _) rfl (fun K hK => ?_) AllReadyH.nil
          go_simp
          have hkk := HK.out w5 A4 c4 (List.replicate k 0) HB5.out HA5.out
          rw [HCK.out, List.length_replicate] at hkk
          refine hkk.mono ?_
          clear hkk
          rintro e w6 ⟨rfl, hb6⟩
          have HB6 := Aside0.mk (HB5.out.trans (hb6.mono HB5.out.size))
          refine hK.out _ _ hb6 (fun hHeld6 => ?_)
          clear hK K hb6
          try simp only [Act.put, List.setIfInBounds_toArray, List.set_cons_zero, List.set_cons_succ]
          refine wpAnyH_take (i := 14) (oi := { dst := some 73, op := _, type := _, pos := _, after := _, guard := some (10, false) }) (v := ?_) rfl (by kernel_rfl) (by kernel_rfl) (by kernel_rfl) (fun _ _ _ h => h) (Or.inl ⟨rfl, ?_⟩) hHeld6 ?_
          rotate_left
          · intro w hSw
            try dsimp only at hSw
            go_simp
            try exact rfl
          try simp only [Act.put, List.setIfInBounds_toArray, List.set_cons_zero, List.set_cons_succ]
          refine wpAnyH_take (i := 15) (oi := { dst := some 74, op := _, type := _, pos := _, after := _, guard := some (6, true) }) (v := ?_) rfl (by kernel_rfl) (by kernel_rfl) (by kernel_rfl) (fun _ _ _ h => h) (Or.inl ⟨rfl, ?_⟩) hHeld6 ?_
          rotate_left
          · intro w hSw
            try dsimp only at hSw
            go_simp
            try exact rfl
          try simp only [Act.put, List.setIfInBounds_toArray, List.set_cons_zero, List.set_cons_succ]
          refine wpAnyH_take (i := 16) (oi := { dst := some 75, op := _, type := _, pos := _, after := _, guard := none }) (v := ?_) rfl (by kernel_rfl) (by kernel_rfl) (by kernel_rfl) (fun _ _ _ h => h) (Or.inl ⟨rfl, ?_⟩) hHeld6 ?_
          rotate_left
          · intro w hSw
            try dsimp only at hSw
            go_simp
            try exact rfl
          try simp only [Act.put, List.setIfInBounds_toArray, List.set_cons_zero, List.set_cons_succ]
          refine wpAnyH_take (i := 17) (oi := { dst := some 76, op := _, type := _, pos := _, after := _, guard := none }) (v := ?_) rfl (by kernel_rfl) (by kernel_rfl) (by kernel_rfl) (fun _ _ _ h => h) (Or.inl ⟨rfl, ?_⟩) hHeld6 ?_
          rotate_left
          · intro w hSw
            try dsimp only at hSw
            go_simp
            try exact rfl
          try simp only [Act.put, List.setIfInBounds_toArray, List.set_cons_zero, List.set_cons_succ]
          refine wpAnyH_ready (rs := [18]) (by kernel_rfl) (by simp) ?_
          refine AllReadyH.cons (o := _) rfl (fun K hK => ?_) AllReadyH.nil
          go_simp
          refine (HW.out w6 HB6.out).mono ?_
          rintro e w7 ⟨rfl, hb7⟩
          have HB7 := Aside0.mk (HB6.out.trans (hb7.mono HB6.out.size))
          refine hK.out _ _ (hHeld6.trans (hb7.mono hHeld6.size)) (fun hHeld7 => ?_)
          clear hK K hb7
          try simp only [Act.put, List.setIfInBounds_toArray, List.set_cons_zero, List.set_cons_succ]
          refine wpAnyH_take (i := 19) (oi := { dst := some 78, op := _, type := _, pos := _, after := _, guard := none }) (v := ?_) rfl (by kernel_rfl) (by kernel_rfl) (by kernel_rfl) (fun _ _ _ h => h) (Or.inl ⟨rfl, ?_⟩) hHeld7 ?_
          rotate_left
          · intro w hSw
            try dsimp only at hSw
            go_simp
            try exact rfl
          try simp only [Act.put, List.setIfInBounds_toArray, List.set_cons_zero, List.set_cons_succ]
          refine wpAnyH_take (i := 20) (oi := { dst := some 2, op := _, type := _, pos := _, after := _, guard := none }) (v := ?_) rfl (by kernel_rfl) (by kernel_rfl) (by kernel_rfl) (fun _ _ _ h => h) (Or.inl ⟨rfl, ?_⟩) hHeld7 ?_
          rotate_left
          · intro w hSw
            try dsimp only at hSw
            go_simp
            try exact rfl
          try simp only [Act.put, List.setIfInBounds_toArray, List.set_cons_zero, List.set_cons_succ]
          refine wpAnyH_done (by kernel_rfl) ?_ _
          clear u5
          go_wp2
          go_ret
          exact ⟨rfl, HB7.out⟩
end Go.Proofs.YtcgcghldgomelaaGreatDoor.Mp
