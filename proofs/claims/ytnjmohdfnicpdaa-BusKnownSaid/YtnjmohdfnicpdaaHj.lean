/- New, Count, Send, Next of the bus (printed by gen_hj.py). -/
import Derived.Test.YtnjmohdfnicpdaaHi
namespace Go.Proofs.Ytnjmohdfnicpdaa.Bus
open Go.RowKit Go.Shelf Go.Lib Go.Sort Go.Proofs.Ytnjmohdfnicpdaa.Frm Go.Proofs.Ytnjmohdfnicpdaa.Rng Go.Proofs.YtnjmohdfnicpdaaW.PrintWords Go.Proofs.YtnjmohdfnicpdaaW.PrintMore Go.Proofs.YtnjmohdfnicpdaaW.PrintLast

theorem bnew_any (w : World) : Calls Try.prog 7 #[] w fun e w' => e = .returned (.pointer (some ⟨w.heap.size, 0, none⟩)) ∧ BusAt w' w.heap.size (.slice none 0 0) [] 0 ∧ Below w.heap.size w w' := by
  have hb := heap_alloc_new w (.cells #[.slice none 0 0, .int .i64 0] 62)
  have hB := Aside0.mk (show BusAt (w.alloc (.cells #[.slice none 0 0, .int .i64 0] 62)) w.heap.size (.slice none 0 0) [] 0 from ⟨hb, Kd.R_nil _ _ _ _ _⟩)
  have hW := Aside0.mk (below_alloc (Below.refl w.heap.size w) (.cells #[.slice none 0 0, .int .i64 0] 62))
  clear hb
  go_enter Try.func7, Try.ntmps7
  go_wp2_with (fail)
  go_ret
  exact ⟨rfl, hB.out, hW.out⟩
theorem bcount_any (w : World) (g : Nat) (v : Value) (l : List Sn) (N : Int) (h : BusAt w g v l N) :
    Calls Try.prog 12 #[.pointer (some ⟨g, 0, none⟩)] w fun e w' => e = .returned (.int .i64 N) ∧ w' = w := by
  have h1 := h.cell1
  clear h
  go_enter Try.func12, Try.ntmps12
  go_wp2_with (fail)
  go_ret
  exact ⟨rfl, rfl⟩

instance (f : Fm) : Decidable (Rt f) := by unfold Rt; exact inferInstance
/-- What Send answers. -/
def sendC (x : Sn) (n : Nat) : Int := if x.nd < 0 then 2 else if ¬ Rt x.fm then 30 else if 512 ≤ n then 40 else 0
/-- What lies there behind Send. -/
def SendP (l l' : List Sn) (N N' r : Int) (x : Sn) : Prop := (r = 0 ∧ l'.Perm (l ++ [x]) ∧ N' = N + 1) ∨ (r ≠ 0 ∧ l' = l ∧ N' = N)
theorem bus_num {w : World} {g : Nat} {v : Value} {l : List Sn} {N : Int} (h : BusAt w g v l N) (M : Int) : BusAt (w.setCell ⟨g, 1, none⟩ (.int .i64 M)) g v l M := by
  refine ⟨blk_put h.blk 1 _ rfl, h.row.1, ?_⟩
  obtain ⟨inner, ho, hrp⟩ := h.row.2
  exact ⟨inner, own_move ho (fun k hk => (Fr.setCell (M := fun k => k = g) w ⟨g, 1, none⟩ (.int .i64 M) (Or.inl rfl)).block k (own_lt ho k hk) (h.row.1 k hk)), hrp⟩
theorem fr_num (w : World) (g : Nat) (v : Value) (x : Value) : Turn g v v w (w.setCell ⟨g, 1, none⟩ x) := ⟨Fr.setCell w ⟨g, 1, none⟩ x (.inl (.inl rfl)), fun _ hk => .inl hk⟩
set_option maxHeartbeats 4000000 in
set_option maxRecDepth 100000 in
theorem bsend_any (w : World) (g : Nat) (v : Value) (l : List Sn) (x : Sn) (r : Int) (hr : sendC x l.length = r) (h : BusAt w g v l x.num) (hp : Hp l l.length) (hl : l.length ≤ 100000) (hN : 0 ≤ x.num ∧ x.num < 1000000000) :
    Calls Try.prog 8 #[.pointer (some ⟨g, 0, none⟩), .int .i64 x.nd, .agg #[.int .u16 x.id, .int .i64 x.len, .int .u8 x.x0, .int .u8 x.x1, .int .u8 x.x2, .int .u8 x.x3, .int .u8 x.x4, .int .u8 x.x5, .int .u8 x.x6, .int .u8 x.x7, .bool x.rem]] w fun e w' => e = .returned (.int .i64 r) ∧ ∃ v' l' N', BusAt w' g v' l' N' ∧ Hp l' l'.length ∧ SendP l l' x.num N' r x ∧ Turn g v v' w w' := by
  obtain ⟨hN0, hN1⟩ := hN
  have wr : IntKind.i64.wrap (x.num + 1) = x.num + 1 := by rw [IntKind.wrap_i64]; omega
  have HB := Aside0.mk h
  have HP := Aside0.mk hp
  unfold sendC at hr
  have hbx := heap_alloc_new w (.cells #[.int .u16 x.id, .int .i64 x.len, .int .u8 x.x0, .int .u8 x.x1, .int .u8 x.x2, .int .u8 x.x3, .int .u8 x.x4, .int .u8 x.x5, .int .u8 x.x6, .int .u8 x.x7, .bool x.rem] 32)
  have hbw := below_alloc (Below.refl w.heap.size w) (.cells #[.int .u16 x.id, .int .i64 x.len, .int .u8 x.x0, .int .u8 x.x1, .int .u8 x.x2, .int .u8 x.x3, .int .u8 x.x4, .int .u8 x.x5, .int .u8 x.x6, .int .u8 x.x7, .bool x.rem] 32)
  have HL := Aside0.mk h.lt
  have HBX := Aside0.mk hbx
  have HBW := Aside0.mk hbw
  clear h hp hbx hbw
  by_cases hn : x.nd < 0
  · rw [if_pos hn] at hr
    subst hr
    go_enter Try.func8, Try.ntmps8
    go_wp2_with (fail)
    go_ret
    exact ⟨rfl, v, l, x.num, HB.out.fr (Fr.of_below (M := fun _ => False) HBW.out) (fun h => h) (fun _ _ h => h), HP.out, .inr ⟨by decide, rfl, rfl⟩, ⟨Fr.of_below HBW.out, fun k hk => .inl hk⟩⟩
  · rw [if_neg hn] at hr
    go_enter Try.func8, Try.ntmps8
    obtain ⟨f0, f1, f2, f3, f4, f5, f6, f7, f8, f9, f10, f11⟩ := fm_at (show (w.alloc (.cells #[.int .u16 x.id, .int .i64 x.len, .int .u8 x.x0, .int .u8 x.x1, .int .u8 x.x2, .int .u8 x.x3, .int .u8 x.x4, .int .u8 x.x5, .int .u8 x.x6, .int .u8 x.x7, .bool x.rem] 32)).heap[w.heap.size]? = some (.cells (Fm.cells ⟨x.id, x.len, [x.x0, x.x1, x.x2, x.x3, x.x4, x.x5, x.x6, x.x7], x.rem⟩) 32 (0, 0)) from HBX.out)
    go_wp2_with (fail)
    refine (fright_any x.id x.len x.x0 x.x1 x.x2 x.x3 x.x4 x.x5 x.x6 x.x7 x.rem _).mono ?_
    rintro e w1 ⟨hq, hb1⟩
    clear f0 f1 f2 f3 f4 f5 f6 f7 f8 f9 f10 f11
    have hbx1 := blk_below HBX.out hb1
    have hb01 : Below w.heap.size w w1 := HBW.out.trans (hb1.mono HBW.out.size)
    have HBX1 := Aside0.mk hbx1
    have HB01 := Aside0.mk hb01
    have HB1 := Aside0.mk (HB.out.fr (Fr.of_below (M := fun _ => False) hb01) (fun h => h) (fun _ _ h => h))
    obtain ⟨f0, f1, f2, f3, f4, f5, f6, f7, f8, f9, f10, f11⟩ := fm_at (show w1.heap[w.heap.size]? = some (.cells (Fm.cells ⟨x.id, x.len, [x.x0, x.x1, x.x2, x.x3, x.x4, x.x5, x.x6, x.x7], x.rem⟩) 32 (0, 0)) from hbx1)
    clear hbx1 hb01 hb1
    rcases hq with ⟨rfl, hq⟩ | ⟨rfl, hq⟩
    · rw [if_neg (show ¬ ¬ Rt x.fm from fun hh => hh hq)] at hr
      clear hq
      go_wp2_with (fail)
      refine (len_any w1 g v l x.num HB1.out).mono ?_
      rintro e w2 ⟨rfl, hw2⟩
      have hw2 := hw2.symm
      subst hw2
      by_cases h512 : 512 ≤ l.length
      · rw [if_pos h512] at hr
        subst hr
        go_wp2_with (fail)
        go_ret
        exact ⟨rfl, v, l, x.num, HB1.out, HP.out, .inr ⟨by decide, rfl, rfl⟩, ⟨Fr.of_below HB01.out, fun k hk => .inl hk⟩⟩
      · rw [if_neg h512] at hr
        subst hr
        go_wp2_with (fail)
        have hd := HB1.out.drew
        have c1 : w1.drew.cell? ⟨g, 1, none⟩ = some (.int .i64 x.num) := hd.cell1
        have HD := Aside0.mk hd
        have HDT := Aside0.mk (show Turn g v v w w1.drew from ⟨(Fr.of_below HB01.out).trans (Fr.drew _ _), fun k hk => .inl hk⟩)
        clear hd f0 f1 f2 f3 f4 f5 f6 f7 f8 f9 f10 f11
        obtain ⟨f0, f1, f2, f3, f4, f5, f6, f7, f8, f9, f10, f11⟩ := fm_at (show w1.drew.heap[w.heap.size]? = some (.cells (Fm.cells ⟨x.id, x.len, [x.x0, x.x1, x.x2, x.x3, x.x4, x.x5, x.x6, x.x7], x.rem⟩) 32 (0, 0)) from HBX1.out)
        refine wp_region_last_drew (S := fun X => X = w1.drew) (ds := [12]) (by kernel_rfl) rfl (fun hHeld => ?_)
        refine wpAnyLast_take (i := 0) (oi := { dst := some 24, op := Op.move (Operand.tmp 0), type := 24, pos := _, after := _, guard := none }) (v := ?_) rfl (by kernel_rfl) (by kernel_rfl) (by kernel_rfl) (by kernel_rfl) (by kernel_rfl) (fun _ _ _ h => h) (Or.inl ⟨rfl, ?_⟩) hHeld ?_
        rotate_left
        · rintro w rfl
          try dsimp only at hSw
          go_simp
          try exact rfl
        try simp only [Act.put, List.setIfInBounds_toArray, List.set_cons_zero, List.set_cons_succ]
        refine wpAnyLast_take (i := 1) (oi := { dst := some 25, op := Op.nilCheck (Operand.tmp 24), type := 0, pos := _, after := _, guard := none }) (v := ?_) rfl (by kernel_rfl) (by kernel_rfl) (by kernel_rfl) (by kernel_rfl) (by kernel_rfl) (fun _ _ _ h => h) (Or.inl ⟨rfl, ?_⟩) hHeld ?_
        rotate_left
        · rintro w rfl
          try dsimp only at hSw
          go_simp
          try exact rfl
        try simp only [Act.put, List.setIfInBounds_toArray, List.set_cons_zero, List.set_cons_succ]
        refine wpAnyLast_take (i := 2) (oi := { dst := some 26, op := Op.fieldAddr 62 (Operand.tmp 25) 0, type := 0, pos := _, after := _, guard := none }) (v := ?_) rfl (by kernel_rfl) (by kernel_rfl) (by kernel_rfl) (by kernel_rfl) (by kernel_rfl) (fun _ _ _ h => h) (Or.inl ⟨rfl, ?_⟩) hHeld ?_
        rotate_left
        · rintro w rfl
          try dsimp only at hSw
          go_simp
          try exact rfl
        try simp only [Act.put, List.setIfInBounds_toArray, List.set_cons_zero, List.set_cons_succ]
        refine wpAnyLast_take (i := 3) (oi := { dst := some 27, op := Op.makeInterface 66 (Operand.tmp 26), type := 80, pos := _, after := _, guard := none }) (v := ?_) rfl (by kernel_rfl) (by kernel_rfl) (by kernel_rfl) (by kernel_rfl) (by kernel_rfl) (fun _ _ _ h => h) (Or.inl ⟨rfl, ?_⟩) hHeld ?_
        rotate_left
        · rintro w rfl
          try dsimp only at hSw
          go_simp
          try exact rfl
        try simp only [Act.put, List.setIfInBounds_toArray, List.set_cons_zero, List.set_cons_succ]
        refine wpAnyLast_take (i := 4) (oi := { dst := some 28, op := Op.move (Operand.tmp 1), type := 3, pos := _, after := _, guard := none }) (v := ?_) rfl (by kernel_rfl) (by kernel_rfl) (by kernel_rfl) (by kernel_rfl) (by kernel_rfl) (fun _ _ _ h => h) (Or.inl ⟨rfl, ?_⟩) hHeld ?_
        rotate_left
        · rintro w rfl
          try dsimp only at hSw
          go_simp
          try exact rfl
        try simp only [Act.put, List.setIfInBounds_toArray, List.set_cons_zero, List.set_cons_succ]
        refine wpAnyLast_take (i := 5) (oi := { dst := some 29, op := Op.load 32 (Operand.tmp 5), type := 32, pos := _, after := _, guard := none }) (v := ?_) rfl (by kernel_rfl) (by kernel_rfl) (by kernel_rfl) (by kernel_rfl) (by kernel_rfl) (fun _ _ _ h => h) (Or.inl ⟨rfl, ?_⟩) hHeld ?_
        rotate_left
        · rintro w rfl
          try dsimp only at hSw
          go_simp
          try exact rfl
        try simp only [Act.put, List.setIfInBounds_toArray, List.set_cons_zero, List.set_cons_succ]
        refine wpAnyLast_take (i := 6) (oi := { dst := some 30, op := Op.move (Operand.tmp 0), type := 24, pos := _, after := _, guard := none }) (v := ?_) rfl (by kernel_rfl) (by kernel_rfl) (by kernel_rfl) (by kernel_rfl) (by kernel_rfl) (fun _ _ _ h => h) (Or.inl ⟨rfl, ?_⟩) hHeld ?_
        rotate_left
        · rintro w rfl
          try dsimp only at hSw
          go_simp
          try exact rfl
        try simp only [Act.put, List.setIfInBounds_toArray, List.set_cons_zero, List.set_cons_succ]
        refine wpAnyLast_take (i := 7) (oi := { dst := some 31, op := Op.nilCheck (Operand.tmp 30), type := 0, pos := _, after := _, guard := none }) (v := ?_) rfl (by kernel_rfl) (by kernel_rfl) (by kernel_rfl) (by kernel_rfl) (by kernel_rfl) (fun _ _ _ h => h) (Or.inl ⟨rfl, ?_⟩) hHeld ?_
        rotate_left
        · rintro w rfl
          try dsimp only at hSw
          go_simp
          try exact rfl
        try simp only [Act.put, List.setIfInBounds_toArray, List.set_cons_zero, List.set_cons_succ]
        refine wpAnyLast_take (i := 8) (oi := { dst := some 32, op := Op.fieldAddr 62 (Operand.tmp 31) 1, type := 0, pos := _, after := _, guard := none }) (v := ?_) rfl (by kernel_rfl) (by kernel_rfl) (by kernel_rfl) (by kernel_rfl) (by kernel_rfl) (fun _ _ _ h => h) (Or.inl ⟨rfl, ?_⟩) hHeld ?_
        rotate_left
        · rintro w rfl
          try dsimp only at hSw
          go_simp
          try exact rfl
        try simp only [Act.put, List.setIfInBounds_toArray, List.set_cons_zero, List.set_cons_succ]
        refine wpAnyLast_take (i := 9) (oi := { dst := some 33, op := Op.load 2 (Operand.tmp 32), type := 2, pos := _, after := _, guard := none }) (v := ?_) rfl (by kernel_rfl) (by kernel_rfl) (by kernel_rfl) (by kernel_rfl) (by kernel_rfl) (fun _ _ _ h => h) (Or.inl ⟨rfl, ?_⟩) hHeld ?_
        rotate_left
        · rintro w rfl
          try dsimp only at hSw
          go_simp
          try exact rfl
        try simp only [Act.put, List.setIfInBounds_toArray, List.set_cons_zero, List.set_cons_succ]
        refine wpAnyLast_take (i := 10) (oi := { dst := some 34, op := Op.build 35 #[(0, Operand.tmp 28), (1, Operand.tmp 29), (2, Operand.tmp 33)], type := 35, pos := _, after := _, guard := none }) (v := ?_) rfl (by kernel_rfl) (by kernel_rfl) (by kernel_rfl) (by kernel_rfl) (by kernel_rfl) (fun _ _ _ h => h) (Or.inl ⟨rfl, ?_⟩) hHeld ?_
        rotate_left
        · rintro w rfl
          try dsimp only at hSw
          go_simp
          try exact rfl
        try simp only [Act.put, List.setIfInBounds_toArray, List.set_cons_zero, List.set_cons_succ]
        refine wpAnyLast_take (i := 11) (oi := { dst := some 35, op := Op.makeInterface 35 (Operand.tmp 34), type := 20, pos := _, after := _, guard := none }) (v := ?_) rfl (by kernel_rfl) (by kernel_rfl) (by kernel_rfl) (by kernel_rfl) (by kernel_rfl) (fun _ _ _ h => h) (Or.inl ⟨rfl, ?_⟩) hHeld ?_
        rotate_left
        · rintro w rfl
          try dsimp only at hSw
          go_simp
          try exact rfl
        try simp only [Act.put, List.setIfInBounds_toArray, List.set_cons_zero, List.set_cons_succ]
        refine wpAnyLast_ready (rs := [12]) (by kernel_rfl) (by simp) ?_
        refine AllReadyL.cons_last (o := { dst := some 36, op := Op.call { callee := Go.Callee.value (Operand.func 22), args := #[Operand.tmp 27, Operand.tmp 35], argTypes := #[80, 20] }, type := 0, pos := _, after := _, guard := none }) rfl (by decide) (fun K hK => ?_) AllReadyL.nil
        rw [if_pos (wanted_none rfl)]
        go_simp
        refine (hpush_any _ g v l x.num x HD.out HP.out (by omega)).mono ?_
        rintro e w2 ⟨rfl, v2, l2, hb2, hp2, hh2, ht2⟩
        refine hK.out _ _ ?_
        clear hK K
        try simp only [Act.put, List.setIfInBounds_toArray, List.set_cons_zero, List.set_cons_succ]
        refine wpAnyLast_done (by kernel_rfl) ?_ _
        have z1 : w2.cell? ⟨g, 1, none⟩ = some (.int .i64 x.num) := hb2.cell1
        have zf : w2.frozen? ⟨g, 1, none⟩ = false := hb2.frozen 1
        have HBN := Aside0.mk (bus_num hb2 (x.num + 1))
        have HTN := Aside0.mk ((HDT.out.trans ht2).trans (fr_num w2 g v2 (.int .i64 (x.num + 1))))
        have HPN := Aside0.mk hp2
        have HHN := Aside0.mk hh2
        clear hb2 hp2 hh2 ht2 f0 f1 f2 f3 f4 f5 f6 f7 f8 f9 f10 f11 c1 hHeld
        go_wp2_with (fail)
        go_ret
        exact ⟨rfl, v2, l2, _, HBN.out, HHN.out, .inl ⟨rfl, HPN.out, rfl⟩, HTN.out⟩
    · rw [if_pos (show ¬ Rt x.fm from hq)] at hr
      subst hr
      clear hq
      go_wp2_with (fail)
      go_ret
      exact ⟨rfl, v, l, x.num, HB1.out, HP.out, .inr ⟨by decide, rfl, rfl⟩, ⟨Fr.of_below HB01.out, fun k hk => .inl hk⟩⟩
end Go.Proofs.Ytnjmohdfnicpdaa.Bus
