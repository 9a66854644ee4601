/- ref03.Write. -/
import Derived.Test.YtmgabmcfgnlpfaaDoorRgt
import Derived.Deep.QuietTactic
import Derived.BigQuiet
namespace Go.Proofs.YtmgabmcfgnlpfaaDoor.Frm
open Go.RowKit Go.Proofs.YtmgabmcfgnlpfaaDoorW.PrintWords Go.Proofs.YtmgabmcfgnlpfaaDoorW.PrintMore Go.Proofs.YtmgabmcfgnlpfaaDoorW.PrintLast

/-- A text of bytes. -/
def strOf (l : List UInt8) : ByteArray := ⟨l.toArray⟩
theorem str_app (a b : List UInt8) : strOf a ++ strOf b = strOf (a ++ b) := by
  apply ByteArray.ext
  simp [strOf]
theorem str_size (l : List UInt8) : (strOf l).size = l.length := by simp [strOf, ByteArray.size]
theorem str_list (l : List UInt8) : (strOf l).data.toList = l := rfl
theorem str_of (s : ByteArray) : strOf s.data.toList = s := by
  apply ByteArray.ext
  simp [strOf]
theorem pairs_snoc : ∀ (l : List Int) (x : Int), pairs (l ++ [x]) = pairs l ++ [digC (x / 16), digC (x % 16)]
  | [], _ => rfl
  | y :: l, x => by simp [pairs, pairs_snoc l x]
set_option maxHeartbeats 2000000 in
set_option maxRecDepth 100000 in
theorem rwrite_any (i n x0 x1 x2 x3 x4 x5 x6 x7 : Int) (b : Bool) (w : World) (hw : Wf ⟨i, n, [x0, x1, x2, x3, x4, x5, x6, x7], b⟩) :
    Calls Tryd.prog 19 #[.agg #[.int .u16 i, .int .i64 n, .int .u8 x0, .int .u8 x1, .int .u8 x2, .int .u8 x3, .int .u8 x4, .int .u8 x5, .int .u8 x6, .int .u8 x7, .bool b]] w fun e w' =>
      (Rt ⟨i, n, [x0, x1, x2, x3, x4, x5, x6, x7], b⟩ ∧ e = .returned (.tuple #[.string (strOf (wrF ⟨i, n, [x0, x1, x2, x3, x4, x5, x6, x7], b⟩)), .int .i64 0]) ∨ ¬ Rt ⟨i, n, [x0, x1, x2, x3, x4, x5, x6, x7], b⟩ ∧ e = .returned (.tuple #[.string (strOf []), .int .i64 30])) ∧ Below w.heap.size w w' := by
  have HR := fun W => rright_any i n x0 x1 x2 x3 x4 x5 x6 x7 b W
  have hi0 := hw.i0
  have hdb := hw.db
  obtain ⟨d, hd⟩ : ∃ d, [x0, x1, x2, x3, x4, x5, x6, x7] = d := ⟨_, rfl⟩
  have hdl : d.length = 8 := by rw [← hd]; rfl
  simp only [hd] at HR hdb ⊢
  have HD := Aside0.mk hd
  have HDB := Aside0.mk hdb
  clear hw hd hdb
  by_cases hr : Rt ⟨i, n, d, b⟩
  · obtain ⟨h1, h2, h3, _⟩ := id hr
    have HRT := Aside0.mk hr
    clear hr
    simp only at h1 h2 h3
    rcases b with _ | _
    · go_enter Tryd.func19, Tryd.ntmps19
      go_wp2_with (first
        | (go_at_call 21; refine (HR _).mono ?_; rintro e w' ⟨(⟨rfl, _⟩ | ⟨rfl, hno⟩), hbw⟩; rotate_left; exact absurd HRT.out hno; obtain ⟨hb0, hbw2⟩ := after_call hbw; obtain ⟨f0, f1, _, _, _, _, _, _, _, _, f10, _⟩ := fm_lit hb0; have HB0 := Aside0.mk hb0; have HBW := Aside0.mk hbw2; clear hb0 hbw hbw2)
        | (go_at_call 31; refine (digit_any _ _ (by omega) (by omega)).mono ?_; rintro e w' ⟨rfl, rfl⟩))
      obtain ⟨m, rfl⟩ := Int.eq_ofNat_of_zero_le h2
      go_loopw [5, 6] (fun sv j wr => ∃ k : Nat, k ≤ m ∧ j = .int .i64 k ∧ (∃ s : ByteArray, sv = .string s ∧ Aside0 (s = strOf ([digC (i / 256), digC (i / 16 % 16), digC (i % 16), 35] ++ pairs (d.take k))) ∧ s.size = 4 + 2 * k) ∧ Aside0 (wr.heap[w.heap.size]? = some (.cells (Fm.cells ⟨i, m, d, false⟩) 25 (0, 0))) ∧ Aside0 (Below w.heap.size w wr)) (fun _ j _ => m - (intOf j).toNat)
      case atStart =>
        refine ⟨0, Nat.zero_le _, rfl, ⟨_, rfl, ⟨?_⟩, rfl⟩, ⟨?_⟩, HBW⟩
        · rfl
        · rw [← HD.out]
          exact HB0.out
      case round =>
        obtain ⟨k, hk, rfl, ⟨s, rfl, HS, hss⟩, HB, HW⟩ := hrel
        have hb1 := HB.out
        rw [← HD.out] at hb1
        obtain ⟨_, g1, _, _, _, _, _, _, _, _, _, _⟩ := fm_at hb1
        clear hb1
        by_cases hlt : k < m
        · have hcl := blk_cell HB.out (2 + k)
          rw [fm_len _ _ _ _ k (by omega)] at hcl
          have hkd : k < d.length := by omega
          have hx1 := HDB.out (d[k]'hkd) (List.getElem_mem hkd)
          have HX := Aside0.mk (show d.take (k + 1) = d.take k ++ [d[k]'hkd] by rw [List.take_add_one, List.getElem?_eq_getElem hkd]; rfl)
          rw [List.getElem?_eq_getElem hkd] at hcl
          simp only [Option.getD_some] at hcl
          generalize d[k]'hkd = x at hcl hx1 HX
          go_wp2_with (fail)
          go_quiet ((go_at_call 31; refine Calls.quiet_of_same (digit_any _ _ (by omega) (by omega))))
          go_wp2
          refine ⟨⟨k + 1, by omega, by simp, ⟨_, rfl, ⟨?_⟩, ?_⟩, ⟨HB.out⟩, ⟨below_drewN HW.out _⟩⟩, by simp [intOf]; omega⟩
          · rw [HS.out]
            change strOf _ ++ strOf [digC (x / 16)] ++ strOf [digC (x % 16)] = strOf _
            rw [str_app, str_app, HX.out, pairs_snoc]
            simp
          · change (s ++ strOf [digC (x / 16)] ++ strOf [digC (x % 16)]).size = _
            rw [ByteArray.size_append, ByteArray.size_append, str_size, str_size, hss]
            simp
            omega
        · obtain rfl : k = m := by omega
          go_wp2
          go_ret2
          refine ⟨.inl ⟨HRT.out, ?_⟩, HW.out⟩
          change Ending.returned (.tuple #[.string s, .int .i64 0]) = _
          rw [HS.out]
          rfl
    · go_enter Tryd.func19, Tryd.ntmps19
      go_wp2_with (first
        | (go_at_call 21; refine (HR _).mono ?_; rintro e w' ⟨(⟨rfl, _⟩ | ⟨rfl, hno⟩), hbw⟩; rotate_left; exact absurd HRT.out hno; obtain ⟨hb0, hbw2⟩ := after_call hbw; obtain ⟨f0, f1, _, _, _, _, _, _, _, _, f10, _⟩ := fm_lit hb0; have HB0 := Aside0.mk hb0; have HBW := Aside0.mk hbw2; clear hb0 hbw hbw2)
        | (go_at_call 31; refine (digit_any _ _ (by omega) (by omega)).mono ?_; rintro e w' ⟨rfl, rfl⟩))
      go_ret2
      exact ⟨.inl ⟨HRT.out, rfl⟩, HBW.out⟩
  · have HRT := Aside0.mk hr
    clear hr
    go_enter Tryd.func19, Tryd.ntmps19
    go_wp2_with (go_at_call 21; refine (HR _).mono ?_; rintro e w' ⟨(⟨rfl, hyes⟩ | ⟨rfl, _⟩), hbw⟩; exact absurd hyes HRT.out; have HBW := Aside0.mk (after_call hbw).2; clear hbw)
    go_ret2
    exact ⟨.inr ⟨HRT.out, rfl⟩, HBW.out⟩
end Go.Proofs.YtmgabmcfgnlpfaaDoor.Frm
