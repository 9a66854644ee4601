/- frame.Read: the texts of frames with bytes. -/
import Derived.Test.YtmgabmcfgnlpfaaDoorFra
namespace Go.Proofs.YtmgabmcfgnlpfaaDoor.Frm
open Go.RowKit Go.Proofs.YtmgabmcfgnlpfaaDoorW.PrintWords Go.Proofs.YtmgabmcfgnlpfaaDoorW.PrintMore Go.Proofs.YtmgabmcfgnlpfaaDoorW.PrintLast

theorem data_none {s : List UInt8} {a b c : UInt8} {r : List UInt8} (hs : s = a :: b :: c :: 35 :: r) (h82 : ∀ m, r = 82 :: m → False) (h : r.length % 2 = 0 → r.length ≤ 16 → (∀ b ∈ r, isHex b) → False) : Reads s fm0 30 := by
  refine reads_none fun g hw hr hg => ?_
  obtain ⟨a', b', c', r', h1, _, _, _, _, h2⟩ := wr_shape hw hr
  rw [hg, hs] at h1
  simp only [List.cons.injEq] at h1
  obtain ⟨_, _, _, _, rfl⟩ := h1
  rcases h2 with ⟨_, m, rfl, h3, h4⟩ | ⟨_, h3, h4, h5⟩
  · exact h82 _ rfl
  · exact h (by omega) (by omega) h5
/-- The bytes behind k rounds. -/
def decK (r : List UInt8) (k : Nat) : List Int := dec (r.take (2 * k)) ++ List.replicate (8 - k) 0
theorem dec_len : ∀ (k : Nat) (r : List UInt8), 2 * k ≤ r.length → (dec (r.take (2 * k))).length = k
  | 0, r, _ => by simp [dec]
  | k + 1, a :: b :: r, h => by
    rw [show 2 * (k + 1) = 2 * k + 1 + 1 by omega]
    simp only [List.take_succ_cons, dec, List.length_cons]
    rw [dec_len k r (by simp at h; omega)]
  | k + 1, [a], h => by simp at h; omega
  | k + 1, [], h => by simp at h
theorem dec_snoc : ∀ (k : Nat) (r : List UInt8), 2 * k + 2 ≤ r.length → dec (r.take (2 * (k + 1))) = dec (r.take (2 * k)) ++ [numU ((r.drop (2 * k)).take 2)]
  | 0, a :: b :: r, _ => by simp [dec]
  | 0, [a], h => by simp at h
  | 0, [], h => by simp at h
  | k + 1, a :: b :: r, h => by
    rw [show 2 * (k + 1 + 1) = 2 * (k + 1) + 1 + 1 by omega, show 2 * (k + 1) = 2 * k + 1 + 1 by omega]
    simp only [List.take_succ_cons, dec, List.drop_succ_cons, List.cons_append]
    have := dec_snoc k r (by simp at h; omega)
    rw [show 2 * (k + 1) = 2 * k + 1 + 1 by omega] at this
    rw [this]
  | k + 1, [a], h => by simp at h
  | k + 1, [], h => by simp at h
theorem decK_succ (r : List UInt8) (k : Nat) (h : 2 * k + 2 ≤ r.length) (h8 : k < 8) : decK r (k + 1) = (decK r k).set k (numU ((r.drop (2 * k)).take 2)) := by
  unfold decK
  rw [dec_snoc k r h, List.set_append_right _ _ (by rw [dec_len k r (by omega)]; exact Nat.le_refl _), dec_len k r (by omega), Nat.sub_self, show 8 - k = (8 - (k + 1)) + 1 by omega, List.replicate_succ, List.set_cons_zero]
  simp
theorem fm_set (i n : Int) (d : List Int) (k : Nat) (x : Int) (rem : Bool) (h : k < d.length) : (Fm.cells ⟨i, n, d, rem⟩).setIfInBounds (2 + k) (.int .u8 x) = Fm.cells ⟨i, n, d.set k x, rem⟩ := by
  simp only [Fm.cells]
  apply Array.toList_inj.1
  simp only [Array.toList_setIfInBounds, Array.toList_append, List.set_append, List.length_cons, List.length_nil, List.map_set, List.length_append, List.length_map]
  rw [if_pos (by omega), if_neg (by omega)]
  congr 2
  congr 1
  omega
set_option maxHeartbeats 2000000 in
set_option maxRecDepth 100000 in
theorem read_data (s : ByteArray) (w : World) (h63 : s.size ≤ 9223372036854775807) (a b c : UInt8) (r : List UInt8) (hs : s.data.toList = a :: b :: c :: 35 :: r) (h82 : ∀ m, r = 82 :: m → False) (ha : isHex a) (hb : isHex b) (hc : isHex c) (htop : numU [a, b, c] ≤ 2047) :
    Calls Tryd.prog 7 #[.string s] w fun e w' => (∃ f k, e = .returned (.tuple #[.agg (Fm.cells f), .int .i64 k]) ∧ Reads s.data.toList f k) ∧ Below w.heap.size w w' := by
  obtain ⟨L, hL⟩ : ∃ L, s.data.toList = L := ⟨_, rfl⟩
  rw [hL]
  have h0 := (head_wr ha hb hc).1
  have HOK := Aside0.mk (fun n => reads_data (r := r) (n := n) ha hb hc htop)
  have HH := Aside0.mk (hash3 hs ha hb hc)
  have hl := head_list hs
  have hr := rest_list hs
  obtain ⟨hd, hhd⟩ : ∃ hd, s.extract 0 3 = hd := ⟨_, rfl⟩
  obtain ⟨rest, hrest⟩ : ∃ rest, s.extract 4 s.size = rest := ⟨_, rfl⟩
  rw [hhd] at hl
  rw [hrest] at hr
  have HHD := Aside0.mk hhd
  have HREST := Aside0.mk hrest
  have HX := Aside0.mk (hex_head hl ha hb hc)
  have hsz : hd.size = 3 := by rw [Lib.size_eq, hl]; rfl
  obtain ⟨num, hnum⟩ : ∃ num, numU [a, b, c] = num := ⟨_, rfl⟩
  have HNUM := Aside0.mk (show numU hd.data.toList = num by rw [hl, hnum])
  rw [hnum] at HOK htop h0
  have HP := Aside0.mk (show Lib.hasPrefix rest.data.toList (⟨#[82]⟩ : ByteArray).data.toList = false by
    rw [hr]
    match r, h82 with
    | [], _ => rfl
    | m :: r, h82 =>
      by_cases hm : m = 82
      · exact absurd rfl (hm ▸ h82 r)
      · simp [Lib.hasPrefix, List.isPrefixOf, Ne.symm hm])
  obtain ⟨rb, hrb⟩ : ∃ rb : ByteArray, (⟨(Lib.trimPrefix rest.data.toList (⟨#[82]⟩ : ByteArray).data.toList).toArray⟩ : ByteArray) = rb := ⟨_, rfl⟩
  have HT := Aside0.mk hrb
  have hrs : rest.size ≤ 9223372036854775807 := by rw [Lib.size_eq, hr]; rw [Lib.size_eq, hs] at h63; simp at h63; omega
  have hrl : r.length = rest.size := by rw [Lib.size_eq, hr]
  have HRL := Aside0.mk hrl
  have HR := Aside0.mk hr
  have HNONE := Aside0.mk (fun h => data_none (hL ▸ hs) h82 h)
  rw [hL] at hs
  have HS := Aside0.mk hs
  clear hs hrb hhd hrest hnum hl hr ha hb hc hrl h82 hL
  by_cases hbad : rest.size % 2 ≠ 0 ∨ 16 < rest.size
  · go_enter Tryd.func7, Tryd.ntmps7
    go_wp2_with (first
      | (go_at_call 23; refine (cut_yes s _ 3 HH.out h63).mono ?_; rintro e w1 ⟨rfl, ⟨m1, rfl⟩⟩; rw [HHD.out, HREST.out])
      | (go_at_call 24; refine (number_any hd _ (by omega)).mono ?_; rintro e w' ⟨rfl, hor⟩; obtain rfl := number_good HX.out hor; rw [HNUM.out]; clear hor)
      | (go_at_call 25; refine (str_CutPrefix rest ⟨#[82]⟩ _).mono ?_; rintro e w' ⟨rfl, rfl⟩; rw [HT.out, HP.out]))
    all_goals
      refine bodyPost_ret (read_res _ _ w.heap.size fm0.cells (.int .i64 30) rfl rfl ?_ rfl) rfl ?_
      · rw [cells11]
        exact new_row w ..
      · rw [cells11]
        exact ⟨⟨fm0, 30, rfl, HNONE.out (fun h1 h2 _ => by rw [HRL.out] at h1 h2; omega)⟩, new_below w _ _ _⟩
  · obtain ⟨n, hn⟩ : ∃ n : Nat, rest.size = 2 * n := ⟨rest.size / 2, by omega⟩
    have hn8 : n ≤ 8 := by omega
    clear hbad
    go_enter Tryd.func7, Tryd.ntmps7
    go_wp2_with (first
      | (go_at_call 23; refine (cut_yes s _ 3 HH.out h63).mono ?_; rintro e w1 ⟨rfl, ⟨m1, rfl⟩⟩; rw [HHD.out, HREST.out])
      | (go_at_call 24; refine (number_any hd _ (by omega)).mono ?_; rintro e w' ⟨rfl, hor⟩; obtain rfl := number_good HX.out hor; rw [HNUM.out]; clear hor)
      | (go_at_call 25; refine (str_CutPrefix rest ⟨#[82]⟩ _).mono ?_; rintro e w' ⟨rfl, rfl⟩; rw [HT.out, HP.out]))
    go_loopw [87] (fun i wr => ∃ k : Nat, k ≤ n ∧ i = .int .i64 k ∧ wr.heap[w.heap.size]? = some (.cells fm0.cells 25 (0, 0)) ∧ Aside0 (wr.heap[w.heap.size + 1]? = some (.cells (Fm.cells ⟨num, n, decK r k, false⟩) 25 (0, 0))) ∧ Aside0 (Below w.heap.size w wr) ∧ Aside0 (∀ j, j < 2 * k → isHex (r[j]?.getD 0))) (fun i _ => n - (intOf i).toNat)
    case atStart =>
      exact ⟨0, Nat.zero_le _, rfl, two_new1 w _ _ _, ⟨two_new2 w _ _ _⟩, ⟨two_below w _ _ _⟩, ⟨fun j hj => by omega⟩⟩
    case round =>
      obtain ⟨k, hk, rfl, hb0, HB, HW, HG⟩ := hrel
      by_cases hlt : k < n
      · obtain ⟨pc, hpc⟩ : ∃ pc, rest.extract (2 * k) (2 * k + 2) = pc := ⟨_, rfl⟩
        have hpl : pc.data.toList = (r.drop (2 * k)).take 2 := by
          rw [← hpc, ext_list, HR.out]
          congr 1
          omega
        have hps : pc.size = 2 := by rw [Lib.size_eq, hpl]; simp; have := HRL.out; omega
        have hsl := run_slice_string (P := Tryd.prog) wr 9 rest .i64 .i64 (2 * (k : Int)) (2 * (k : Int) + 2) Tryd.underlying9 (by omega) (by omega) (by omega)
        rw [show (2 * (k : Int)).toNat = 2 * k by omega, show (2 * (k : Int) + 2).toNat = 2 * k + 2 by omega, hpc] at hsl
        obtain ⟨x, y, hxy⟩ : ∃ x y, pc.data.toList = [x, y] := by
          have h2 : pc.data.toList.length = 2 := by rw [← Lib.size_eq]; exact hps
          match pc.data.toList, h2 with
          | [x, y], _ => exact ⟨x, y, rfl⟩
        have HPL := Aside0.mk hpl
        clear hpl hpc
        obtain ⟨f0, f1, f2, f3, f4, f5, f6, f7, f8, f9, f10, f11⟩ := fm_at hb0
        by_cases hpx : isHex x ∧ isHex y
        · have hnum2 := num2 hpx.1 hpx.2
          have hv1 := (digC_hexV hpx.1).1
          have hv2 := (digC_hexV hpx.2).1
          have hv3 : 0 ≤ hexV x := hpx.1
          have hv4 : 0 ≤ hexV y := hpx.2
          obtain ⟨v, hv⟩ : ∃ v, numU pc.data.toList = v := ⟨_, rfl⟩
          have hvb : 0 ≤ v ∧ v < 256 := by rw [← hv, hxy, hnum2]; omega
          have HV := Aside0.mk hv
          have HPX := Aside0.mk (show ∀ j, j < pc.size → isHex (pc.data.toList[j]?.getD 0) by
            intro j hj
            rw [hps] at hj
            rw [hxy]
            match j, hj with
            | 0, _ => exact hpx.1
            | 1, _ => exact hpx.2)
          have hcl := blk_cell HB.out (2 + k)
          rw [fm_len _ _ _ _ k (by unfold decK; simp [dec_len k r (by have := HRL.out; omega)]; omega)] at hcl
          have hfr := blk_frozen HB.out (2 + k)
          clear hnum2 hv1 hv2 hv3 hv4 hv hxy hpx f0 f1 f2 f3 f4 f5 f6 f7 f8 f9 f10 f11
          go_wp2_with (go_at_call 24; refine (number_any pc _ (by omega)).mono ?_; rintro e w' ⟨rfl, hor⟩; obtain rfl := number_good HPX.out hor; rw [HV.out]; clear hor)
          refine ⟨⟨k + 1, by omega, by simp, blk_far hb0 (by simp) _, ⟨blk_put HB.out (2 + k) _ ?_⟩, ⟨HW.out.setCell (by simp) _⟩, ⟨fun j hj => ?_⟩⟩, by simp [intOf]; omega⟩
          · rw [decK_succ r k (by have := HRL.out; omega) (by omega), ← HPL.out, HV.out]
            exact fm_set _ _ _ k v _ (by unfold decK; simp [dec_len k r (by have := HRL.out; omega)]; omega)
          · by_cases h1 : j < 2 * k
            · exact HG.out j h1
            · have h2 := HPX.out (j - 2 * k) (by omega)
              rw [HPL.out, List.getElem?_take, if_pos (by omega), List.getElem?_drop, show 2 * k + (j - 2 * k) = j by omega] at h2
              exact h2
        · have HPX := Aside0.mk (show ∃ j, j < pc.size ∧ ¬ isHex (pc.data.toList[j]?.getD 0) by
            by_cases hx1 : isHex x
            · exact ⟨1, by omega, by rw [hxy]; exact fun hy1 => hpx ⟨hx1, hy1⟩⟩
            · exact ⟨0, by omega, by rw [hxy]; exact hx1⟩)
          have HN := Aside0.mk (HNONE.out (fun _ _ hall => by
            have hm : ∀ z ∈ pc.data.toList, isHex z := fun z hz => hall z (by
              rw [HPL.out] at hz
              exact List.mem_of_mem_drop (List.mem_of_mem_take hz))
            rw [hxy] at hm
            exact hpx ⟨hm x (by simp), hm y (by simp)⟩))
          clear hpx hxy
          go_wp2_with (go_at_call 24; refine (number_any pc _ (by omega)).mono ?_; rintro e w' ⟨rfl, hor⟩; obtain rfl := number_bad HPX.out hor; clear hor)
          refine bodyPost_ret (read_res _ _ w.heap.size fm0.cells (.int .i64 30) rfl rfl ?_ rfl) rfl ?_
          · rw [cells11]
            exact row_fm hb0 ..
          · rw [cells11]
            exact ⟨⟨fm0, 30, rfl, HN.out⟩, below_cells (Nat.le_refl _) _ _ HW.out⟩
      · obtain rfl : k = n := by omega
        have hd8 : (decK r k).length = 8 := by unfold decK; simp [dec_len k r (by have := HRL.out; omega)]; omega
        obtain ⟨x0, x1, x2, x3, x4, x5, x6, x7, hx8⟩ := eight hd8
        have HX8 := Aside0.mk hx8
        have hb1 := HB.out
        rw [hx8] at hb1
        obtain ⟨f0, f1, f2, f3, f4, f5, f6, f7, f8, f9, f10, f11⟩ := fm_at hb0
        obtain ⟨g0, g1, g2, g3, g4, g5, g6, g7, g8, g9, g10, g11⟩ := fm_at hb1
        have HB0 := Aside0.mk hb0
        clear hx8 hd8 hb1 hb0
        go_wp2
        refine bodyPost_ret (read_res _ _ w.heap.size (Fm.cells ⟨num, k, [x0, x1, x2, x3, x4, x5, x6, x7], false⟩) (.int .i64 0) rfl rfl ?_ rfl) rfl ?_
        · rw [cells11]
          exact row_fm HB0.out ..
        · rw [cells11]
          refine ⟨⟨_, 0, rfl, ?_⟩, below_cells (Nat.le_refl _) _ _ HW.out⟩
          have h1 := HOK.out k (by rw [HRL.out, hn]) hn8 (fun z hz => by
            obtain ⟨j, hj, rfl⟩ := List.getElem_of_mem hz
            have := HG.out j (by have := HRL.out; omega)
            rwa [List.getElem?_eq_getElem hj] at this)
          rw [HS.out, ← HX8.out]
          unfold decK
          rw [List.take_of_length_le (by rw [HRL.out, hn]; exact Nat.le_refl _)]
          exact h1
end Go.Proofs.YtmgabmcfgnlpfaaDoor.Frm
