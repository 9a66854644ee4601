/- frame.Write. -/
import Derived.Test.YtmgabmcfgnlpfaaDoorBld
import Derived.Test.YtmgabmcfgnlpfaaDoorFrr
namespace Go.Proofs.YtmgabmcfgnlpfaaDoor.Frm
open Go.RowKit Go.Proofs.YtmgabmcfgnlpfaaDoorW.PrintWords Go.Proofs.YtmgabmcfgnlpfaaDoorW.PrintMore Go.Proofs.YtmgabmcfgnlpfaaDoorW.PrintLast

theorem kept_cells {b k : Nat} {w w' : World} {cs : Array Value} {t : TypeId} {fz : Nat × Nat} (h : Lib.OthersKept 5 (some b) w w') (hc : w.heap[k]? = some (.cells cs t fz)) (hk : k ≠ b) (ht : t ≠ 5) : w'.heap[k]? = some (.cells cs t fz) :=
  h k _ hc (fun e => hk (Option.some.inj e)) (fun c f e => ht (by injection e))
theorem mask16 {v : Int} (h0 : 0 ≤ v) (h1 : v < 65536) : ∃ q : Nat, q < 16 ∧ (q : Int) = v % 16 ∧ bits .and .u16 v 15 = (q : Int) := by
  refine ⟨(v % 16).toNat, by omega, by omega, ?_⟩
  rw [show (((v % 16).toNat : Nat) : Int) = v % 16 by omega]
  exact bits_mask .u16 16 (by decide) wraps_u16 4 (by decide) v h0 h1
theorem mask8 {v : Int} (h0 : 0 ≤ v) (h1 : v < 256) : ∃ q : Nat, q < 16 ∧ (q : Int) = v % 16 ∧ bits .and .u8 v 15 = (q : Int) := by
  refine ⟨(v % 16).toNat, by omega, by omega, ?_⟩
  rw [show (((v % 16).toNat : Nat) : Int) = v % 16 by omega]
  exact u8_and15 v h0 h1
theorem digs_get (q : Nat) (h : q < 16) (h2 : q < (⟨#[48, 49, 50, 51, 52, 53, 54, 55, 56, 57, 65, 66, 67, 68, 69, 70]⟩ : ByteArray).size) : (⟨#[48, 49, 50, 51, 52, 53, 54, 55, 56, 57, 65, 66, 67, 68, 69, 70]⟩ : ByteArray)[q]'h2 = digC q := by
  have hall : ∀ (q : Nat) (h : q < 16), (⟨#[48, 49, 50, 51, 52, 53, 54, 55, 56, 57, 65, 66, 67, 68, 69, 70]⟩ : ByteArray)[q]'h = digC q := by decide
  exact hall q h
/-- The digits of a frame's identifier. -/
def hdL (i : Int) : List UInt8 := [digC (i / 256), digC (i / 16 % 16), digC (i % 16)]
theorem cells_snoc (l : List UInt8) (x : UInt8) : Lib.byteCells l ++ [.int .u8 (x.toNat : Int)] = Lib.byteCells (l ++ [x]) := by simp [Lib.byteCells]
theorem cells_str (l : List UInt8) (s : ByteArray) : Lib.byteCells l ++ Lib.strCells s = Lib.byteCells (l ++ s.data.toList) := by simp [Lib.byteCells, Lib.strCells]
theorem dec_small (m : Nat) (h : m ≤ 8) : (⟨(Lib.decDigits m).toArray⟩ : ByteArray) = ⟨#[digC m]⟩ := by
  have hall : ∀ m : Nat, m < 9 → UInt8.ofNat (48 + m) = digC m := by decide
  rw [Lib.decDigits, dif_pos (by omega), hall m (by omega)]
set_option maxHeartbeats 2000000 in
set_option maxRecDepth 100000 in
theorem fwrite_good (i n x0 x1 x2 x3 x4 x5 x6 x7 : Int) (b : Bool) (w : World) (hw : Wf ⟨i, n, [x0, x1, x2, x3, x4, x5, x6, x7], b⟩) (hr : Rt ⟨i, n, [x0, x1, x2, x3, x4, x5, x6, x7], b⟩) :
    Calls Tryd.prog 10 #[.agg #[.int .u16 i, .int .i64 n, .int .u8 x0, .int .u8 x1, .int .u8 x2, .int .u8 x3, .int .u8 x4, .int .u8 x5, .int .u8 x6, .int .u8 x7, .bool b]] w fun e w' =>
      e = .returned (.tuple #[.string (strOf (wrF ⟨i, n, [x0, x1, x2, x3, x4, x5, x6, x7], b⟩)), .int .i64 0]) ∧ Below w.heap.size w w' := by
  have HR := fun W => fright_any i n x0 x1 x2 x3 x4 x5 x6 x7 b W
  have hi0 := hw.i0
  have hdb := hw.db
  obtain ⟨d, hd⟩ : ∃ d, [x0, x1, x2, x3, x4, x5, x6, x7] = d := ⟨_, rfl⟩
  have hdl : d.length = 8 := by rw [← hd]; rfl
  simp only [hd] at HR hdb hr ⊢
  have HD := Aside0.mk hd
  have HDB := Aside0.mk hdb
  clear hw hd hdb
  obtain ⟨h1, h2, h3, _⟩ := id hr
  have HRT := Aside0.mk hr
  clear hr
  simp only at h1 h2 h3
  go_enter Tryd.func10, Tryd.ntmps10
  go_wp2_with (go_at_call 11; refine (HR _).mono ?_; rintro e w1 ⟨(⟨rfl, _⟩ | ⟨rfl, hno⟩), hbw⟩; rotate_left; exact absurd HRT.out hno; clear HR; obtain ⟨hb0, hbw2⟩ := after_call hbw; have HB0 := Aside0.mk hb0; have HBW := Aside0.mk hbw2; clear hb0 hbw hbw2)
  have hlt0 : w.heap.size < w1.heap.size := blk_lt HB0.out
  go_loopw [14] (fun j wr => ∃ k : Nat, k ≤ 3 ∧ j = .int .i64 k ∧ Aside0 (Lib.IsBuilderF 56 5 w1.heap.size w1.heap.size (Lib.byteCells ((hdL i).take k)) wr) ∧ Aside0 (wr.heap[w.heap.size]? = some (.cells (Fm.cells ⟨i, n, d, b⟩) 25 (0, 0))) ∧ Aside0 (wr.heap[w1.heap.size + 1]? = some (.cells #[.int .i64 8, .int .i64 4, .int .i64 0] 3 (0, 0))) ∧ Aside0 (Below w.heap.size w wr)) (fun j _ => 3 - (intOf j).toNat)
  case atStart =>
    refine ⟨0, Nat.zero_le _, rfl, ⟨?_⟩, ⟨?_⟩, ⟨?_⟩, ⟨?_⟩⟩
    · exact (Lib.IsBuilderF.of (Lib.fresh_isBuilder 56 5 w1)).alloc _
    · rw [← HD.out]
      exact blk_alloc (blk_alloc HB0.out _) _
    · have h := heap_alloc_new (w1.alloc (.cells #[.pointer none, .slice none 0 0] 56)) (.cells #[.int .i64 8, .int .i64 4, .int .i64 0] 3)
      simpa using h
    · exact (HBW.out.alloc (by omega) _).alloc (by simp; omega) _
  case round =>
    obtain ⟨k, hk, rfl, HI, HF, HS, HW⟩ := hrel
    have hbs : ((Lib.byteCells ((hdL i).take k))).length ≤ 3 := by simp [Lib.byteCells, hdL]; omega
    have hsz : w1.heap.size ≤ wr.heap.size := by have := blk_lt HS.out; omega
    have hf1 := HF.out
    rw [← HD.out] at hf1
    obtain ⟨f0, f1, _, _, _, _, _, _, _, _, f10, _⟩ := fm_at hf1
    clear hf1
    have s0 : wr.cell? ⟨w1.heap.size + 1, 0, none⟩ = some (.int .i64 8) := blk_cell HS.out 0
    have s1 : wr.cell? ⟨w1.heap.size + 1, 1, none⟩ = some (.int .i64 4) := blk_cell HS.out 1
    have s2 : wr.cell? ⟨w1.heap.size + 1, 2, none⟩ = some (.int .i64 0) := blk_cell HS.out 2
    by_cases hlt : k < 3
    · rcases (by omega : k = 0 ∨ k = 1 ∨ k = 2) with rfl | rfl | rfl
      · obtain ⟨q, hq16, hq, hm⟩ := mask16 (v := i / 256) (by omega) (by omega)
        have hdg := digs_get q hq16
        have HQ := Aside0.mk hq
        have hqi : (q : Int) < 16 := by omega
        clear hq
        go_wp2_with (go_at_call 27; refine (write_byte w1.heap.size w1.heap.size _ _ wr HI.out (by omega) hsz).mono ?_; rintro e w2 ⟨rfl, hI2, hb2, hk2⟩; have HI2 := Aside0.mk hI2; have HF2 := Aside0.mk (kept_cells hk2 HF.out (by omega) (by decide)); have HS2 := Aside0.mk (kept_cells hk2 HS.out (by omega) (by decide)); have HW2 := Aside0.mk (HW.out.trans (hb2.mono (by omega))); clear hI2 hb2 hk2)
        refine ⟨⟨0 + 1, by omega, by simp, ⟨.inr ?_⟩, HF2, HS2, HW2⟩, by simp [intOf]⟩
        have h := HI2.out
        rw [cells_snoc, HQ.out, show i / 256 % 16 = i / 256 by omega] at h
        exact h
      · obtain ⟨q, hq16, hq, hm⟩ := mask16 (v := i / 16) (by omega) (by omega)
        have hdg := digs_get q hq16
        have HQ := Aside0.mk hq
        have hqi : (q : Int) < 16 := by omega
        clear hq
        go_wp2_with (go_at_call 27; refine (write_byte w1.heap.size w1.heap.size _ _ wr HI.out (by omega) hsz).mono ?_; rintro e w2 ⟨rfl, hI2, hb2, hk2⟩; have HI2 := Aside0.mk hI2; have HF2 := Aside0.mk (kept_cells hk2 HF.out (by omega) (by decide)); have HS2 := Aside0.mk (kept_cells hk2 HS.out (by omega) (by decide)); have HW2 := Aside0.mk (HW.out.trans (hb2.mono (by omega))); clear hI2 hb2 hk2)
        refine ⟨⟨1 + 1, by omega, by simp, ⟨.inr ?_⟩, HF2, HS2, HW2⟩, by simp [intOf]⟩
        have h := HI2.out
        rw [cells_snoc, HQ.out] at h
        exact h
      · obtain ⟨q, hq16, hq, hm⟩ := mask16 (v := i) (by omega) (by omega)
        have hdg := digs_get q hq16
        have HQ := Aside0.mk hq
        have hqi : (q : Int) < 16 := by omega
        clear hq
        go_wp2_with (go_at_call 27; refine (write_byte w1.heap.size w1.heap.size _ _ wr HI.out (by omega) hsz).mono ?_; rintro e w2 ⟨rfl, hI2, hb2, hk2⟩; have HI2 := Aside0.mk hI2; have HF2 := Aside0.mk (kept_cells hk2 HF.out (by omega) (by decide)); have HS2 := Aside0.mk (kept_cells hk2 HS.out (by omega) (by decide)); have HW2 := Aside0.mk (HW.out.trans (hb2.mono (by omega))); clear hI2 hb2 hk2)
        refine ⟨⟨2 + 1, by omega, by simp, ⟨.inr ?_⟩, HF2, HS2, HW2⟩, by simp [intOf]⟩
        have h := HI2.out
        rw [cells_snoc, HQ.out] at h
        exact h
    · have e3 : 3 = k := by omega
      subst e3
      obtain ⟨m, rfl⟩ := Int.eq_ofNat_of_zero_le h2
      have hdec := dec_small m (by omega)
      have hrs : (⟨#[82]⟩ : ByteArray) ++ ⟨#[digC m]⟩ = strOf [82, digC m] := str_app [82] [digC m]
      clear s0 s1 s2
      rcases b with _ | _
      · go_wp2_with (first
          | (go_at_call 27; refine (write_byte w1.heap.size w1.heap.size _ _ wr HI.out (by omega) hsz).mono ?_; rintro e w2 ⟨rfl, hI2, hb2, hk2⟩; have hfr := kept_cells hk2 HF.out (by omega) (by decide); have HF2 := Aside0.mk hfr; rw [← HD.out] at hfr; obtain ⟨_, g1, _, _, _, _, _, _, _, _, g10, _⟩ := fm_at hfr; change Lib.BuilderAtF _ _ _ _ _ (Lib.byteCells (hdL i) ++ [.int .u8 ((35 : UInt8).toNat : Int)]) w2 at hI2; rw [cells_snoc] at hI2; have HI2 := Aside0.mk hI2; have HW2 := Aside0.mk (HW.out.trans (hb2.mono (by omega))); clear hI2 hb2 hk2 hfr))
        have hltb : w1.heap.size < w2.heap.size := HI2.out.lt
        go_loopw [40] (fun j wr => ∃ k : Nat, k ≤ m ∧ j = .int .i64 k ∧ Aside0 (Lib.IsBuilderF 56 5 w1.heap.size w1.heap.size (Lib.byteCells (hdL i ++ [35] ++ pairs (d.take k))) wr) ∧ Aside0 (wr.heap[w.heap.size]? = some (.cells (Fm.cells ⟨i, m, d, false⟩) 25 (0, 0))) ∧ Aside0 (Below w.heap.size w wr)) (fun j _ => m - (intOf j).toNat)
        case atStart =>
          refine ⟨0, Nat.zero_le _, rfl, ⟨.inr ?_⟩, HF2, HW2⟩
          have h := HI2.out
          rwa [show hdL i ++ [35] = hdL i ++ [35] ++ pairs (d.take 0) by simp [pairs]] at h
        case round =>
          obtain ⟨k, hk, rfl, HI3, HF3, HW3⟩ := hrel
          have hpl : (pairs (d.take k)).length ≤ 16 := by rw [pairs_len]; simp; omega
          have hbs3 : (Lib.byteCells (hdL i ++ [35] ++ pairs (d.take k))).length ≤ 20 := by rw [Lib.byteCells_length]; simp [hdL]; omega
          have hsz3 : w1.heap.size ≤ wr.heap.size := by
            rcases HI3.out with h | h
            · exact Nat.le_of_lt h.lt
            · exact Nat.le_of_lt h.lt
          by_cases hlt : k < m
          · have hcl := blk_cell HF3.out (2 + k)
            rw [fm_len _ _ _ _ k (by omega)] at hcl
            have hkd : k < d.length := by omega
            have hx1 := HDB.out (d[k]'hkd) (List.getElem_mem hkd)
            have HX := Aside0.mk (show d.take (k + 1) = d.take k ++ [d[k]'hkd] by rw [List.take_add_one, List.getElem?_eq_getElem hkd]; rfl)
            rw [List.getElem?_eq_getElem hkd] at hcl
            simp only [Option.getD_some] at hcl
            generalize d[k]'hkd = x at hcl hx1 HX
            obtain ⟨q, hq16, hq, hm⟩ := mask8 hx1.1 hx1.2
            obtain ⟨p, hp⟩ := Int.eq_ofNat_of_zero_le (show 0 ≤ x / 16 by omega)
            have hp16 : p < 16 := by omega
            have hdg := digs_get q hq16
            have hdp := digs_get p hp16
            have HQ := Aside0.mk hq
            have HP := Aside0.mk hp
            have hqi : (q : Int) < 16 := by omega
            have hpi : (p : Int) < 16 := by omega
            clear hq
            obtain ⟨L3, hL3⟩ : ∃ L3, hdL i ++ [35] ++ pairs (d.take k) = L3 := ⟨_, rfl⟩
            have hl3 : L3.length ≤ 20 := by rw [← hL3, ← Lib.byteCells_length]; exact hbs3
            have HL3 := Aside0.mk hL3
            rw [hL3] at HI3
            clear hbs3 hL3
            go_wp2_with (first
              | (go_at_call 27; refine (write_byte w1.heap.size w1.heap.size _ _ wr HI3.out (by rw [Lib.byteCells_length]; omega) hsz3).mono ?_; rintro e w4 ⟨rfl, hI4, hb4, hk4⟩; rw [cells_snoc] at hI4; have HI4 := Aside0.mk hI4; have HF4 := Aside0.mk (kept_cells hk4 HF3.out (by omega) (by decide)); have HW4 := Aside0.mk (HW3.out.trans (hb4.mono (by omega))); clear hI4 hb4 hk4 HI3 HF3 HW3)
              | (go_at_call 27; refine (write_byte w1.heap.size w1.heap.size _ _ _ (.inr HI4.out) (by rw [Lib.byteCells_length]; simp; omega) (Nat.le_of_lt HI4.out.lt)).mono ?_; rintro e w5 ⟨rfl, hI5, hb5, hk5⟩; rw [cells_snoc] at hI5; have HI5 := Aside0.mk hI5; have HF5 := Aside0.mk (kept_cells hk5 HF4.out (by omega) (by decide)); have HW5 := Aside0.mk (HW4.out.trans (hb5.mono (by omega))); clear hI5 hb5 hk5 HI4 HF4 HW4))
            refine ⟨⟨k + 1, by omega, by simp, ⟨.inr ?_⟩, HF5, HW5⟩, by simp [intOf]; omega⟩
            have h := HI5.out
            rw [HX.out, pairs_snoc, HP.out, ← HQ.out]
            rw [← HL3.out] at h
            simpa using h
          · have ek : m = k := by omega
            subst ek
            go_wp2_with (go_at_call 30; refine (Builder_String_any_k w1.heap.size w1.heap.size _ _ HI3.out hsz3).mono ?_; rintro e w4 ⟨rfl, _, hb4, _⟩; have HW4 := Aside0.mk (HW3.out.trans (hb4.mono (by omega))); clear hb4)
            go_ret2
            refine ⟨?_, HW4.out⟩
            rfl
      · go_wp2_with (first
          | (go_at_call 27; refine (write_byte w1.heap.size w1.heap.size _ _ wr HI.out (by omega) hsz).mono ?_; rintro e w2 ⟨rfl, hI2, hb2, hk2⟩; have hfr := kept_cells hk2 HF.out (by omega) (by decide); have HF2 := Aside0.mk hfr; rw [← HD.out] at hfr; obtain ⟨_, g1, _, _, _, _, _, _, _, _, g10, _⟩ := fm_at hfr; change Lib.BuilderAtF _ _ _ _ _ (Lib.byteCells (hdL i) ++ [.int .u8 ((35 : UInt8).toNat : Int)]) w2 at hI2; rw [cells_snoc] at hI2; have HI2 := Aside0.mk hI2; have HW2 := Aside0.mk (HW.out.trans (hb2.mono (by omega))); clear hI2 hb2 hk2 hfr)
          | (go_at_call 29; refine (strconv_Itoa_small m (by omega) _).mono ?_; rintro e w' ⟨rfl, rfl⟩; rw [hdec])
          | (go_at_call 28; refine (write_string w1.heap.size w1.heap.size _ _ _ (.inr HI2.out) (by rw [Lib.byteCells_length, str_size]; simp [hdL]) (Nat.le_of_lt HI2.out.lt)).mono ?_; rintro e w3 ⟨rfl, hI3, hb3, _⟩; rw [cells_str] at hI3; have HI3 := Aside0.mk hI3; have HW3 := Aside0.mk (HW2.out.trans (hb3.mono (by omega))); clear hI3 hb3)
          | (go_at_call 30; refine (Builder_String_any_k w1.heap.size w1.heap.size _ _ (.inr HI3.out) (Nat.le_of_lt HI3.out.lt)).mono ?_; rintro e w4 ⟨rfl, _, hb4, _⟩; have HW4 := Aside0.mk (HW3.out.trans (hb4.mono (by omega))); clear hb4))
        go_ret2
        refine ⟨?_, HW4.out⟩
        rfl
set_option maxHeartbeats 2000000 in
set_option maxRecDepth 100000 in
theorem fwrite_bad (i n x0 x1 x2 x3 x4 x5 x6 x7 : Int) (b : Bool) (w : World) (hr : ¬ Rt ⟨i, n, [x0, x1, x2, x3, x4, x5, x6, x7], b⟩) :
    Calls Tryd.prog 10 #[.agg #[.int .u16 i, .int .i64 n, .int .u8 x0, .int .u8 x1, .int .u8 x2, .int .u8 x3, .int .u8 x4, .int .u8 x5, .int .u8 x6, .int .u8 x7, .bool b]] w fun e w' =>
      e = .returned (.tuple #[.string (strOf []), .int .i64 30]) ∧ Below w.heap.size w w' := by
  have HR := fun W => fright_any i n x0 x1 x2 x3 x4 x5 x6 x7 b W
  have HRT := Aside0.mk hr
  clear hr
  go_enter Tryd.func10, Tryd.ntmps10
  go_wp2_with (go_at_call 11; refine (HR _).mono ?_; rintro e w' ⟨(⟨rfl, hyes⟩ | ⟨rfl, _⟩), hbw⟩; exact absurd hyes HRT.out; have HBW := Aside0.mk (after_call hbw).2; clear hbw)
  go_ret2
  exact ⟨rfl, HBW.out⟩
theorem fwrite_any (i n x0 x1 x2 x3 x4 x5 x6 x7 : Int) (b : Bool) (w : World) (hw : Wf ⟨i, n, [x0, x1, x2, x3, x4, x5, x6, x7], b⟩) :
    Calls Tryd.prog 10 #[.agg #[.int .u16 i, .int .i64 n, .int .u8 x0, .int .u8 x1, .int .u8 x2, .int .u8 x3, .int .u8 x4, .int .u8 x5, .int .u8 x6, .int .u8 x7, .bool b]] w fun e w' =>
      (Rt ⟨i, n, [x0, x1, x2, x3, x4, x5, x6, x7], b⟩ ∧ e = .returned (.tuple #[.string (strOf (wrF ⟨i, n, [x0, x1, x2, x3, x4, x5, x6, x7], b⟩)), .int .i64 0]) ∨ ¬ Rt ⟨i, n, [x0, x1, x2, x3, x4, x5, x6, x7], b⟩ ∧ e = .returned (.tuple #[.string (strOf []), .int .i64 30])) ∧ Below w.heap.size w w' := by
  by_cases hr : Rt ⟨i, n, [x0, x1, x2, x3, x4, x5, x6, x7], b⟩
  · refine (fwrite_good i n x0 x1 x2 x3 x4 x5 x6 x7 b w hw hr).mono ?_
    rintro e w' ⟨rfl, h⟩
    exact ⟨.inl ⟨hr, rfl⟩, h⟩
  · refine (fwrite_bad i n x0 x1 x2 x3 x4 x5 x6 x7 b w hr).mono ?_
    rintro e w' ⟨rfl, h⟩
    exact ⟨.inr ⟨hr, rfl⟩, h⟩
end Go.Proofs.YtmgabmcfgnlpfaaDoor.Frm
