/- frame.Read: the texts of frames that ask. -/
import Derived.Test.YtmgabmcfgnlpfaaDoorFrd
namespace Go.Proofs.YtmgabmcfgnlpfaaDoor.Frm
open Go.RowKit Go.Proofs.YtmgabmcfgnlpfaaDoorW.PrintWords Go.Proofs.YtmgabmcfgnlpfaaDoorW.PrintMore Go.Proofs.YtmgabmcfgnlpfaaDoorW.PrintLast

theorem hex_ne {a : UInt8} (h : isHex a) : a ≠ 35 := by
  rintro rfl
  revert h
  unfold isHex
  decide
theorem hash3 {s : ByteArray} {a b c : UInt8} {r : List UInt8} (hs : s.data.toList = a :: b :: c :: 35 :: r) (ha : isHex a) (hb : isHex b) (hc : isHex c) : hash s = 3 := by
  unfold hash
  rw [hs]
  simp [Lib.indexByte, hex_ne ha, hex_ne hb, hex_ne hc]
theorem ext_list (s : ByteArray) (i j : Nat) : (s.extract i j).data.toList = (s.data.toList.drop i).take (j - i) := by
  simp [ByteArray.data_extract, List.extract_eq_take_drop]
theorem head_list {s : ByteArray} {a b c : UInt8} {r : List UInt8} (hs : s.data.toList = a :: b :: c :: 35 :: r) : (s.extract 0 3).data.toList = [a, b, c] := by
  rw [ext_list, hs]
  rfl
theorem rest_list {s : ByteArray} {a b c : UInt8} {r : List UInt8} (hs : s.data.toList = a :: b :: c :: 35 :: r) : (s.extract 4 s.size).data.toList = r := by
  have h : s.size = 4 + r.length := by rw [Lib.size_eq, hs]; simp; omega
  rw [ext_list, hs, h]
  simp
theorem hex_head {hd : ByteArray} {a b c : UInt8} (hl : hd.data.toList = [a, b, c]) (ha : isHex a) (hb : isHex b) (hc : isHex c) : ∀ j, j < hd.size → isHex (hd.data.toList[j]?.getD 0) := by
  intro j hj
  rw [Lib.size_eq, hl] at hj
  rw [hl]
  match j, hj with
  | 0, _ => exact ha
  | 1, _ => exact hb
  | 2, _ => exact hc
theorem ask_none {s : List UInt8} {a b c : UInt8} {r : List UInt8} (hs : s = a :: b :: c :: 35 :: 82 :: r) (h : ∀ m : UInt8, r = [m] → 48 ≤ m.toNat → m.toNat ≤ 56 → False) : Reads s fm0 30 := by
  refine reads_none fun g hw hr hg => ?_
  obtain ⟨a', b', c', r', h1, _, _, _, _, h2⟩ := wr_shape hw hr
  rw [hg, hs] at h1
  simp only [List.cons.injEq] at h1
  obtain ⟨_, _, _, _, h1⟩ := h1
  rcases h2 with ⟨_, m, rfl, h3, h4⟩ | ⟨_, _, _, h5⟩
  · simp only [List.cons.injEq, true_and] at h1
    exact h m h1 h3 h4
  · have := h5 82 (by rw [← h1]; simp)
    revert this
    unfold isHex
    decide
theorem fm0_cells : Fm.cells fm0 = #[.int .u16 0, .int .i64 0, .int .u8 0, .int .u8 0, .int .u8 0, .int .u8 0, .int .u8 0, .int .u8 0, .int .u8 0, .int .u8 0, .bool false] := rfl
set_option maxHeartbeats 2000000 in
set_option maxRecDepth 100000 in
theorem read_ask (s : ByteArray) (w : World) (h63 : s.size ≤ 9223372036854775807) (a b c : UInt8) (r : List UInt8) (hs : s.data.toList = a :: b :: c :: 35 :: 82 :: r) (ha : isHex a) (hb : isHex b) (hc : isHex c) (htop : numU [a, b, c] ≤ 2047) :
    Calls Tryd.prog 7 #[.string s] w fun e w' => (∃ f k, e = .returned (.tuple #[.agg (Fm.cells f), .int .i64 k]) ∧ Reads s.data.toList f k) ∧ Below w.heap.size w w' := by
  obtain ⟨L, hL⟩ : ∃ L, s.data.toList = L := ⟨_, rfl⟩
  rw [hL]
  have h0 := (head_wr ha hb hc).1
  have HA := Aside0.mk (fun n => reads_ask (m := n) ha hb hc htop)
  have HH := Aside0.mk (hash3 hs ha hb hc)
  have hl := head_list hs
  have hr := rest_list hs
  obtain ⟨hd, hhd⟩ : ∃ hd, s.extract 0 3 = hd := ⟨_, rfl⟩
  obtain ⟨rest, hrest⟩ : ∃ rest, s.extract 4 s.size = rest := ⟨_, rfl⟩
  rw [hhd] at hl
  rw [hrest] at hr
  have HHD := Aside0.mk hhd
  have HREST := Aside0.mk hrest
  have HX := Aside0.mk (hex_head hl ha hb hc)
  have hsz : hd.size = 3 := by rw [Lib.size_eq, hl]; rfl
  obtain ⟨num, hnum⟩ : ∃ num, numU [a, b, c] = num := ⟨_, rfl⟩
  have HNUM := Aside0.mk (show numU hd.data.toList = num by rw [hl, hnum])
  rw [hnum] at HA htop h0
  have HP := Aside0.mk (show Lib.hasPrefix rest.data.toList (⟨#[82]⟩ : ByteArray).data.toList = true by rw [hr]; simp [Lib.hasPrefix])
  have HT := Aside0.mk (show (⟨(Lib.trimPrefix rest.data.toList (⟨#[82]⟩ : ByteArray).data.toList).toArray⟩ : ByteArray) = ⟨r.toArray⟩ by rw [hr]; simp [Lib.trimPrefix, Lib.hasPrefix])
  have hrs : r.length ≤ 9223372036854775807 := by rw [Lib.size_eq, hs] at h63; simp at h63; omega
  rw [hL] at hs
  clear hL hhd hrest hnum hl hr ha hb hc
  rcases r with _ | ⟨m, _ | ⟨m2, r2⟩⟩
  · have hnone := Aside0.mk (ask_none hs (fun n hn => by simp at hn))
    obtain ⟨rb, hrb⟩ : ∃ rb : ByteArray, (⟨([] : List UInt8).toArray⟩ : ByteArray) = rb := ⟨_, rfl⟩
    have h1 : rb.size = 0 := by rw [← hrb]; rfl
    rw [hrb] at HT
    clear hrb hs
    go_enter Tryd.func7, Tryd.ntmps7
    go_wp2_with (first
      | (go_at_call 23; refine (cut_yes s _ 3 HH.out h63).mono ?_; rintro e w1 ⟨rfl, ⟨m1, rfl⟩⟩; rw [HHD.out, HREST.out])
      | (go_at_call 24; refine (number_any hd _ (by omega)).mono ?_; rintro e w' ⟨rfl, hor⟩; obtain rfl := number_good HX.out hor; rw [HNUM.out]; clear hor)
      | (go_at_call 25; refine (str_CutPrefix rest ⟨#[82]⟩ _).mono ?_; rintro e w' ⟨rfl, rfl⟩; rw [HT.out, HP.out]))
    all_goals
      refine bodyPost_ret (read_res _ _ w.heap.size fm0.cells (.int .i64 30) rfl rfl ?_ rfl) rfl ?_
      · rw [cells11]
        exact new_row w ..
      · rw [cells11]
        exact ⟨⟨fm0, 30, rfl, hnone.out⟩, new_below w _ _ _⟩
  · clear hrs
    have HS := Aside0.mk hs
    clear hs
    go_enter Tryd.func7, Tryd.ntmps7
    go_wp2_with (first
      | (go_at_call 23; refine (cut_yes s _ 3 HH.out h63).mono ?_; rintro e w1 ⟨rfl, ⟨m1, rfl⟩⟩; rw [HHD.out, HREST.out])
      | (go_at_call 24; refine (number_any hd _ (by omega)).mono ?_; rintro e w' ⟨rfl, hor⟩; obtain rfl := number_good HX.out hor; rw [HNUM.out]; clear hor)
      | (go_at_call 25; refine (str_CutPrefix rest ⟨#[82]⟩ _).mono ?_; rintro e w' ⟨rfl, rfl⟩; rw [HT.out, HP.out]))
    · have hm : ((⟨#[m]⟩ : ByteArray)[0]'Nat.zero_lt_one).toNat = m.toNat := rfl
      have hb : 48 ≤ (((⟨#[m]⟩ : ByteArray)[0]'Nat.zero_lt_one).toNat : Int) := by assumption
      have hb2 : (((⟨#[m]⟩ : ByteArray)[0]'Nat.zero_lt_one).toNat : Int) < 48 ∨ (56 : Int) < (((⟨#[m]⟩ : ByteArray)[0]'Nat.zero_lt_one).toNat : Int) := by assumption
      refine bodyPost_ret (read_res _ _ w.heap.size fm0.cells (.int .i64 30) rfl rfl ?_ rfl) rfl ?_
      · rw [cells11]
        exact new_row w ..
      · rw [cells11]
        exact ⟨⟨fm0, 30, rfl, ask_none (r := [m]) HS.out (fun n hn h1 h2 => by
          simp only [List.cons.injEq, and_true] at hn
          subst hn
          omega)⟩, new_below w _ _ _⟩
    · have hm : ((⟨#[m]⟩ : ByteArray)[0]'Nat.zero_lt_one).toNat = m.toNat := rfl
      have hb : 48 ≤ (((⟨#[m]⟩ : ByteArray)[0]'Nat.zero_lt_one).toNat : Int) ∧ (((⟨#[m]⟩ : ByteArray)[0]'Nat.zero_lt_one).toNat : Int) ≤ 56 := by assumption
      refine bodyPost_ret (read_res _ _ w.heap.size (Fm.cells ⟨num, (m.toNat : Int) - 48, [0, 0, 0, 0, 0, 0, 0, 0], true⟩) (.int .i64 0) rfl rfl ?_ rfl) rfl ?_
      · rw [cells11]
        exact new_row w ..
      · rw [cells11]
        exact ⟨⟨_, 0, rfl, HS.out ▸ HA.out m (by omega) (by omega)⟩, new_below w _ _ _⟩
    · have hm : ((⟨#[m]⟩ : ByteArray)[0]'Nat.zero_lt_one).toNat = m.toNat := rfl
      have hb2 : (((⟨#[m]⟩ : ByteArray)[0]'Nat.zero_lt_one).toNat : Int) < 48 := by assumption
      refine bodyPost_ret (read_res _ _ w.heap.size fm0.cells (.int .i64 30) rfl rfl ?_ rfl) rfl ?_
      · rw [cells11]
        exact new_row w ..
      · rw [cells11]
        exact ⟨⟨fm0, 30, rfl, ask_none (r := [m]) HS.out (fun n hn h1 h2 => by
          simp only [List.cons.injEq, and_true] at hn
          subst hn
          omega)⟩, new_below w _ _ _⟩
  · have hnone := Aside0.mk (ask_none hs (fun n hn => by simp at hn))
    obtain ⟨rb, hrb⟩ : ∃ rb : ByteArray, (⟨(m :: m2 :: r2).toArray⟩ : ByteArray) = rb := ⟨_, rfl⟩
    have h1 : rb.size = r2.length + 1 + 1 := by rw [← hrb]; rfl
    rw [hrb] at HT
    clear hrb hs
    simp only [List.length_cons] at hrs
    go_enter Tryd.func7, Tryd.ntmps7
    go_wp2_with (first
      | (go_at_call 23; refine (cut_yes s _ 3 HH.out h63).mono ?_; rintro e w1 ⟨rfl, ⟨m1, rfl⟩⟩; rw [HHD.out, HREST.out])
      | (go_at_call 24; refine (number_any hd _ (by omega)).mono ?_; rintro e w' ⟨rfl, hor⟩; obtain rfl := number_good HX.out hor; rw [HNUM.out]; clear hor)
      | (go_at_call 25; refine (str_CutPrefix rest ⟨#[82]⟩ _).mono ?_; rintro e w' ⟨rfl, rfl⟩; rw [HT.out, HP.out]))
    all_goals
      refine bodyPost_ret (read_res _ _ w.heap.size fm0.cells (.int .i64 30) rfl rfl ?_ rfl) rfl ?_
      · rw [cells11]
        exact new_row w ..
      · rw [cells11]
        exact ⟨⟨fm0, 30, rfl, hnone.out⟩, new_below w _ _ _⟩
end Go.Proofs.YtmgabmcfgnlpfaaDoor.Frm
