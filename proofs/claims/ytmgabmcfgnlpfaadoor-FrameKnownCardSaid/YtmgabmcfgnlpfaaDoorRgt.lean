/- ref03's digit, value, Right. -/
import Derived.Test.YtmgabmcfgnlpfaaDoorRow
namespace Go.Proofs.YtmgabmcfgnlpfaaDoor.Frm
open Go.RowKit Go.Proofs.YtmgabmcfgnlpfaaDoorW.PrintWords Go.Proofs.YtmgabmcfgnlpfaaDoorW.PrintMore Go.Proofs.YtmgabmcfgnlpfaaDoorW.PrintLast

theorem fm_lit {W : World} {g : Nat} {t : TypeId} {i n x0 x1 x2 x3 x4 x5 x6 x7 : Int} {b : Bool} (h : W.heap[g]? = some (.cells #[.int .u16 i, .int .i64 n, .int .u8 x0, .int .u8 x1, .int .u8 x2, .int .u8 x3, .int .u8 x4, .int .u8 x5, .int .u8 x6, .int .u8 x7, .bool b] t (0, 0))) :
    W.cell? ⟨g, 0, none⟩ = some (.int .u16 i) ∧ W.cell? ⟨g, 1, none⟩ = some (.int .i64 n) ∧ W.cell? ⟨g, 2, none⟩ = some (.int .u8 x0) ∧ W.cell? ⟨g, 3, none⟩ = some (.int .u8 x1) ∧ W.cell? ⟨g, 4, none⟩ = some (.int .u8 x2) ∧ W.cell? ⟨g, 5, none⟩ = some (.int .u8 x3) ∧ W.cell? ⟨g, 6, none⟩ = some (.int .u8 x4) ∧ W.cell? ⟨g, 7, none⟩ = some (.int .u8 x5) ∧ W.cell? ⟨g, 8, none⟩ = some (.int .u8 x6) ∧ W.cell? ⟨g, 9, none⟩ = some (.int .u8 x7) ∧ W.cell? ⟨g, 10, none⟩ = some (.bool b) ∧ ∀ j, W.frozen? ⟨g, j, none⟩ = false := fm_at h
/-- A new block behind a call that leaves it. -/
theorem after_call {w w' : World} {o : Obj} (h : Below (w.alloc o).heap.size (w.alloc o) w') : w'.heap[w.heap.size]? = some o ∧ Below w.heap.size w w' :=
  ⟨blk_below (World.alloc_heap_new w o) h, (below_alloc (Below.refl _ _) _).trans (h.mono (by simp))⟩
theorem dig_cut (k : Nat) (h : k < 16) : (⟨#[48, 49, 50, 51, 52, 53, 54, 55, 56, 57, 65, 66, 67, 68, 69, 70]⟩ : ByteArray).extract k (k + 1) = ⟨#[digC k]⟩ := by
  have h1 : ∀ k : Nat, k < 16 → ((⟨#[48, 49, 50, 51, 52, 53, 54, 55, 56, 57, 65, 66, 67, 68, 69, 70]⟩ : ByteArray).extract k (k + 1)).data.toList = [digC k] := by decide
  have h2 := h1 k h
  generalize (⟨#[48, 49, 50, 51, 52, 53, 54, 55, 56, 57, 65, 66, 67, 68, 69, 70]⟩ : ByteArray).extract k (k + 1) = x at h2
  obtain ⟨⟨l⟩⟩ := x
  simp only at h2
  rw [h2]
set_option maxHeartbeats 1000000 in
set_option maxRecDepth 100000 in
theorem digit_any (n : Int) (w : World) (h0 : 0 ≤ n) (h1 : n < 16) :
    Calls Tryd.prog 31 #[.int .i64 n] w fun e w' => e = .returned (.string ⟨#[digC n]⟩) ∧ w' = w := by
  obtain ⟨k, rfl⟩ := Int.eq_ofNat_of_zero_le h0
  have hsl := run_slice_string (P := Tryd.prog) w 9 ⟨#[48, 49, 50, 51, 52, 53, 54, 55, 56, 57, 65, 66, 67, 68, 69, 70]⟩ .i64 .i64 (k : Int) ((k : Int) + 1) Tryd.underlying9 (by omega) (by omega) (by show (k : Int) + 1 ≤ 16; omega)
  rw [show ((k : Int)).toNat = k by omega, show ((k : Int) + 1).toNat = k + 1 by omega, dig_cut k (by omega)] at hsl
  go_enter Tryd.func31, Tryd.ntmps31
  go_wp2
  go_ret
  exact ⟨rfl, rfl⟩
set_option maxHeartbeats 1000000 in
set_option maxRecDepth 100000 in
theorem value_any (c : UInt8) (w : World) :
    Calls Tryd.prog 26 #[.int .u8 (c.toNat : Int)] w fun e w' => e = .returned (.int .i64 (hexV c)) ∧ w' = w := by
  go_enter Tryd.func26, Tryd.ntmps26
  go_wp2
  go_loopw [3] (fun i wr => ∃ k : Nat, k ≤ 16 ∧ i = .int .i64 k ∧ wr = w ∧ Aside0 (∀ j : Nat, j < k → digC j ≠ c)) (fun i _ => 16 - (intOf i).toNat)
  case atStart => exact ⟨0, Nat.zero_le _, rfl, rfl, ⟨fun j hj => by omega⟩⟩
  case round =>
    obtain ⟨k, hk, rfl, rfl, HG⟩ := hrel
    by_cases hlt : k < 16
    · go_wp2_with (go_at_call 31; refine (digit_any k _ (by omega) (by omega)).mono ?_; rintro e w' ⟨rfl, rfl⟩)
      · have hd : ((((⟨#[digC k]⟩ : ByteArray)[0]'Nat.zero_lt_one).toNat : Int) == (c.toNat : Int)) = true := by assumption
        have hd3 : ((digC k).toNat : Int) = (c.toNat : Int) := of_decide_eq_true hd
        have hd2 : digC k = c := UInt8.toNat_inj.1 (by exact_mod_cast hd3)
        go_ret
        refine ⟨?_, rfl⟩
        rw [← hd2, hexV_digC (by omega) (by omega)]
        rfl
      · have hd : ((((⟨#[digC k]⟩ : ByteArray)[0]'Nat.zero_lt_one).toNat : Int) == (c.toNat : Int)) = false := by assumption
        have hd3 : ¬ ((digC k).toNat : Int) = (c.toNat : Int) := of_decide_eq_false hd
        refine ⟨⟨k + 1, by omega, by simp, trivial, ⟨fun j hj => ?_⟩⟩, by simp [intOf]; omega⟩
        rcases Nat.lt_or_eq_of_le (Nat.le_of_lt_succ hj) with h | rfl
        · exact HG.out j h
        · rintro rfl
          exact hd3 rfl
    · obtain rfl : k = 16 := by omega
      go_wp2
      go_ret
      refine ⟨?_, rfl⟩
      have hge := hexV_ge c
      by_cases hx : isHex c
      · have h1 := digC_hexV hx
        have h2 : 0 ≤ hexV c := hx
        exact absurd (show digC ((hexV c).toNat : Nat) = c by rw [show (((hexV c).toNat : Nat) : Int) = hexV c by omega]; exact h1.2) (HG.out _ (by omega))
      · unfold isHex at hx
        rw [show hexV c = -1 by omega]
        rfl
set_option maxHeartbeats 1000000 in
set_option maxRecDepth 100000 in
theorem rright_any (i n x0 x1 x2 x3 x4 x5 x6 x7 : Int) (b : Bool) (w : World) :
    Calls Tryd.prog 21 #[.agg #[.int .u16 i, .int .i64 n, .int .u8 x0, .int .u8 x1, .int .u8 x2, .int .u8 x3, .int .u8 x4, .int .u8 x5, .int .u8 x6, .int .u8 x7, .bool b]] w fun e w' =>
      (e = .returned (.bool true) ∧ Rt ⟨i, n, [x0, x1, x2, x3, x4, x5, x6, x7], b⟩ ∨ e = .returned (.bool false) ∧ ¬ Rt ⟨i, n, [x0, x1, x2, x3, x4, x5, x6, x7], b⟩) ∧ Below w.heap.size w w' := by
  obtain ⟨R, hR⟩ : ∃ R, Rt ⟨i, n, [x0, x1, x2, x3, x4, x5, x6, x7], b⟩ = R := ⟨_, rfl⟩
  rw [hR]
  by_cases hh : i ≤ 2047 ∧ 0 ≤ n ∧ n ≤ 8
  · obtain ⟨d, hd⟩ : ∃ d, [x0, x1, x2, x3, x4, x5, x6, x7] = d := ⟨_, rfl⟩
    have hdl : d.length = 8 := by rw [← hd]; rfl
    have HR := Aside0.mk (show (∀ j : Nat, j < 8 → d[j]?.getD 0 = 0 ∨ ((j : Int) < n ∧ b = false)) ↔ R by
      rw [← hR, ← hd]
      exact ⟨fun h => ⟨hh.1, hh.2.1, hh.2.2, h⟩, fun h => h.2.2.2⟩)
    have HD := Aside0.mk hd
    obtain ⟨P, hP⟩ : ∃ P : Nat → Prop, (fun k => ∀ j : Nat, j < k → d[j]?.getD 0 = 0 ∨ ((j : Int) < n ∧ b = false)) = P := ⟨_, rfl⟩
    have HP := Aside0.mk hP
    have P8 := Aside0.mk (show P 8 → R from fun h => HR.out.1 (by rw [← HP.out] at h; exact h))
    have P0 := Aside0.mk (show P 0 by rw [← HP.out]; exact fun j hj => by omega)
    clear hR hd hP
    obtain ⟨h1, h2, h3⟩ := hh
    go_enter Tryd.func21, Tryd.ntmps21
    go_wp2
    go_loopw [3] (fun j wr => ∃ k : Nat, k ≤ 8 ∧ j = .int .i64 k ∧ Aside0 (wr.heap[w.heap.size]? = some (.cells (Fm.cells ⟨i, n, d, b⟩) 25 (0, 0))) ∧ Aside0 (Below w.heap.size w wr) ∧ Aside0 (P k)) (fun j _ => 8 - (intOf j).toNat)
    case atStart =>
      refine ⟨0, Nat.zero_le _, rfl, ⟨?_⟩, ⟨below_alloc (Below.refl _ _) _⟩, P0⟩
      rw [← HD.out]
      exact World.alloc_heap_new w _
    case round =>
      obtain ⟨k, hk, rfl, HB, HW, HG⟩ := hrel
      by_cases hlt : k < 8
      · have hcl := blk_cell HB.out (2 + k)
        rw [fm_len _ _ _ _ k (by omega)] at hcl
        have hb1 := HB.out
        rw [← HD.out] at hb1
        obtain ⟨_, f1, _, _, _, _, _, _, _, _, f10, _⟩ := fm_at hb1
        clear hb1
        obtain ⟨x, hx⟩ : ∃ x, d[k]?.getD 0 = x := ⟨_, rfl⟩
        rw [hx] at hcl
        have HX := Aside0.mk hx
        clear hx
        have HEND : ∀ (_ : x = 0 ∨ ((k : Int) < n ∧ b = false)), (∃ k_1 : Nat, k_1 ≤ 8 ∧ Value.int IntKind.i64 (↑k + 1) = Value.int IntKind.i64 ↑k_1 ∧ Aside0 (wr.heap[w.heap.size]? = some (.cells (Fm.cells ⟨i, n, d, b⟩) 25 (0, 0))) ∧ Aside0 (Below w.heap.size w wr) ∧ Aside0 (P k_1)) ∧ 8 - (intOf (Value.int IntKind.i64 (↑k + 1))).toNat < 8 - (intOf (Value.int IntKind.i64 ↑k)).toNat := by
          intro h
          refine ⟨⟨k + 1, by omega, by simp, HB, HW, ⟨?_⟩⟩, by simp [intOf]; omega⟩
          have HG := HG.out
          rw [← HP.out] at HG ⊢
          intro j hj
          rcases Nat.lt_or_eq_of_le (Nat.le_of_lt_succ hj) with h2 | rfl
          · exact HG j h2
          · rw [HX.out]
            exact h
        have HBAD : (¬ (x = 0 ∨ ((k : Int) < n ∧ b = false))) → ¬ R := fun h hr => h (by
          have := HR.out.2 hr k hlt
          rwa [HX.out] at this)
        have HE := Aside0.mk HEND
        have HN := Aside0.mk HBAD
        clear HEND HBAD
        by_cases hx0 : x = 0
        · subst hx0
          go_wp2
          exact HE.out (.inl rfl)
        · by_cases hkn : (k : Int) < n
          · rcases b with _ | _
            · go_wp2
              exact HE.out (.inr ⟨hkn, rfl⟩)
            · go_wp2
              go_ret
              exact ⟨.inr ⟨rfl, HN.out (by simp [hx0])⟩, HW.out⟩
          · go_wp2
            go_ret
            exact ⟨.inr ⟨rfl, HN.out (fun h => h.elim hx0 (fun h => by have := h.1; omega))⟩, HW.out⟩
      · obtain rfl : k = 8 := by omega
        go_wp2
        go_ret
        exact ⟨.inl ⟨rfl, P8.out HG.out⟩, HW.out⟩
  · have HR := Aside0.mk (show ¬ R by
      rw [← hR]
      exact fun h => hh ⟨h.1, h.2.1, h.2.2.1⟩)
    clear hR
    go_enter Tryd.func21, Tryd.ntmps21
    go_wp2
    all_goals
      go_ret
      exact ⟨.inr ⟨rfl, HR.out⟩, below_alloc (Below.refl _ _) _⟩
end Go.Proofs.YtmgabmcfgnlpfaaDoor.Frm
