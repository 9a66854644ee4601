/- container/heap's Push, Pop, Init, of the bus. -/
import Derived.Test.YtnjmohdfnicpdaaHh
namespace Go.Proofs.Ytnjmohdfnicpdaa.Bus
open Go.RowKit Go.Shelf Go.Lib Go.Sort Go.Proofs.Ytnjmohdfnicpdaa.Frm Go.Proofs.Ytnjmohdfnicpdaa.Rng Go.Proofs.YtnjmohdfnicpdaaW.PrintWords Go.Proofs.YtnjmohdfnicpdaaW.PrintMore Go.Proofs.YtnjmohdfnicpdaaW.PrintLast

set_option maxHeartbeats 4000000 in
set_option maxRecDepth 100000 in
theorem hpush_any (w : World) (g : Nat) (v : Value) (l : List Sn) (N : Int) (x : Sn) (h : BusAt w g v l N) (hp : Hp l l.length) (hl : l.length < 100000) :
    Calls Try.prog 22 #[.iface 66 (.pointer (some ⟨g, 0, none⟩)), .iface 35 (.agg #[.int .i64 x.nd, .int .u16 x.id, .int .i64 x.len, .int .u8 x.x0, .int .u8 x.x1, .int .u8 x.x2, .int .u8 x.x3, .int .u8 x.x4, .int .u8 x.x5, .int .u8 x.x6, .int .u8 x.x7, .bool x.rem, .int .i64 x.num])] w fun e w' => e = .returned (.tuple #[]) ∧ ∃ v' l', BusAt w' g v' l' N ∧ l'.Perm (l ++ [x]) ∧ Hp l' l'.length ∧ Turn g v v' w w' := by
  have mP := m_push g
  have mN := m_len g
  have HU := Aside0.mk (HpU.start (x := x) hp)
  go_enter Try.func22, Try.ntmps22
  go_wp2_with (fail)
  refine (push_any w g v l N x h (by omega)).mono ?_
  rintro e w1 ⟨rfl, v1, hb1, ht1⟩
  have HB1 := Aside0.mk hb1
  have HT1 := Aside0.mk ht1
  have hn : (l ++ [x]).length = l.length + 1 := by simp
  clear hb1 ht1
  go_wp2_with (fail)
  refine (len_any w1 g v1 (l ++ [x]) N HB1.out).mono ?_
  rintro e w2 ⟨rfl, hw2⟩
  have hw2 := hw2.symm
  subst hw2
  rw [hn]
  have e1 : ((l.length + 1 : Nat) : Int) - 1 = (l.length : Int) := by omega
  go_wp2_with (fail)
  refine (up_any w1 g v1 (l ++ [x]) N l.length HB1.out HU.out (by omega) (by omega)).mono ?_
  rintro e w3 ⟨rfl, l', hb3, hp3, hh3, ht3⟩
  have HB3 := Aside0.mk hb3
  have HP3 := Aside0.mk hp3
  have HH3 := Aside0.mk hh3
  have HT3 := Aside0.mk ht3
  clear hb3 hp3 hh3 ht3
  go_wp2_with (fail)
  go_end0
  exact ⟨rfl, v1, l', HB3.out, HP3.out, HH3.out, HT1.out.trans HT3.out⟩
theorem take_pop {l : List Sn} {n : Nat} {x : Sn} (hl : l.length = n + 1) (h : l[n]? = some x) : l = l.take n ++ [x] := by
  have h1 := List.take_append_drop n l
  have hlt : n < l.length := by omega
  rw [List.getElem?_eq_getElem hlt] at h
  injection h with h
  rw [List.drop_eq_getElem_cons hlt, h, List.drop_eq_nil_of_le (by omega)] at h1
  exact h1.symm
theorem nth_take {l : List Sn} {n k : Nat} (h : k < n) : nth (l.take n) k = nth l k := by
  unfold nth
  rw [List.getD, List.getElem?_take, if_pos h]
  rfl
theorem Hp.take {l : List Sn} {n : Nat} (hl : n ≤ l.length) (h : Hp l n) : Hp (l.take n) (l.take n).length := by
  intro c h0 hc
  have hln : (l.take n).length = n := by rw [List.length_take]; omega
  rw [hln] at hc
  have := par_lt h0
  rw [nth_take hc, nth_take (by omega)]
  exact h c h0 hc
set_option maxHeartbeats 4000000 in
set_option maxRecDepth 100000 in
theorem hpop_any (w : World) (g : Nat) (v : Value) (l : List Sn) (N : Int) (h : BusAt w g v l N) (hp : Hp l l.length) (h0 : 0 < l.length) (hl : l.length ≤ 100000) (x : Sn) (hx : nth l 0 = x) :
    Calls Try.prog 23 #[.iface 66 (.pointer (some ⟨g, 0, none⟩))] w fun e w' => e = .returned (.iface 35 (.agg #[.int .i64 x.nd, .int .u16 x.id, .int .i64 x.len, .int .u8 x.x0, .int .u8 x.x1, .int .u8 x.x2, .int .u8 x.x3, .int .u8 x.x4, .int .u8 x.x5, .int .u8 x.x6, .int .u8 x.x7, .bool x.rem, .int .i64 x.num])) ∧ ∃ v' l', BusAt w' g v' l' N ∧ (x :: l').Perm l ∧ Hp l' l'.length ∧ Turn g v v' w w' := by
  have mP := m_pop g
  have mN := m_len g
  have mS := m_swap g
  have HF := Aside0.mk (HpF.popped hp)
  have HX := Aside0.mk hx
  clear hp hx
  obtain ⟨n, hn⟩ : ∃ n, l.length - 1 = n := ⟨_, rfl⟩
  have hn2 : l.length = n + 1 := by omega
  rw [hn] at HF
  clear hn
  have e1 : ((n + 1 : Nat) : Int) - 1 = (n : Int) := by omega
  go_enter Try.func23, Try.ntmps23
  go_wp2_with (fail)
  refine (len_any w g v l N h).mono ?_
  rintro e w2 ⟨rfl, hw2⟩
  have hw2 := hw2.symm
  subst hw2
  rw [hn2]
  go_wp2_with (fail)
  refine (show Calls Try.prog 78 #[.pointer (some ⟨g, 0, none⟩), .int .i64 0, .int .i64 n] w _ from swap_any w g v l N 0 n h (by omega) (by omega) hl).mono ?_
  rintro e w3 ⟨rfl, hb3, hf3⟩
  have HB3 := Aside0.mk hb3
  have HT3 := Aside0.mk (Turn.of_fr (g := g) hf3)
  have HS := Aside0.mk (show (swL l 0 n)[n]? = some x by
    have h1 := get_nth (l := swL l 0 n) (k := n) (by rw [swL_len]; omega)
    rw [h1, nth_swL (by omega) (by omega), if_pos rfl, HX.out])
  have HP3 := Aside0.mk (swL_perm (l := l) (i := 0) (j := n) (by omega) (by omega))
  have hl3 : (swL l 0 n).length = n + 1 := by rw [swL_len]; exact hn2
  clear hb3 hf3
  go_wp2_with (fail)
  refine (show Calls Try.prog 35 #[.iface 66 (.pointer (some ⟨g, 0, none⟩)), .int .i64 0, .int .i64 n] w3 _ from down_any w3 g v (swL l 0 n) N 0 n HB3.out HF.out (by omega) (by omega) (by omega)).mono ?_
  rintro e w4 ⟨⟨b, rfl⟩, l4, hb4, hp4, hf4, he4, ht4⟩
  have hl4 : l4.length = n + 1 := by rw [hp4.length_eq]; exact hl3
  have hc4 := take_pop hl4 ((he4 n (Nat.le_refl _)).trans HS.out)
  have HP4 := Aside0.mk (show (x :: l4.take n).Perm l by
    refine .trans ?_ (hp4.trans HP3.out)
    conv => rhs; rw [hc4]
    exact (List.perm_append_comm (l₁ := [x]) (l₂ := l4.take n)))
  have HB4 := Aside0.mk (hc4 ▸ hb4 : BusAt w4 g v (l4.take n ++ [x]) N)
  have HH4 := Aside0.mk (Hp.take (by omega) hf4.all)
  have HT4 := Aside0.mk (HT3.out.trans ht4)
  have hlt : (l4.take n).length ≤ 100000 := by rw [List.length_take]; omega
  clear hb4 hp4 hf4 he4 ht4 hc4
  go_wp2_with (fail)
  refine (pop_any w4 g v (l4.take n) N x HB4.out hlt).mono ?_
  rintro e w5 ⟨rfl, v5, hb5, ht5⟩
  have HB5 := Aside0.mk hb5
  have HT5 := Aside0.mk (HT4.out.trans ht5)
  clear hb5 ht5
  go_wp2_with (fail)
  go_ret
  exact ⟨rfl, v5, _, HB5.out, HP4.out, HH4.out, HT5.out⟩
set_option maxHeartbeats 4000000 in
set_option maxRecDepth 100000 in
theorem hinit_any (w : World) (g : Nat) (v : Value) (l : List Sn) (N : Int) (h : BusAt w g v l N) (hl : l.length ≤ 100000) :
    Calls Try.prog 33 #[.iface 66 (.pointer (some ⟨g, 0, none⟩))] w fun e w' => e = .returned (.tuple #[]) ∧ ∃ l', BusAt w' g v l' N ∧ l'.Perm l ∧ Hp l' l'.length ∧ Turn g v v w w' := by
  have mN := m_len g
  obtain ⟨n, hn⟩ : ∃ n, l.length = n := ⟨_, rfl⟩
  have HF := Aside0.mk (show HpF l n (n / 2) from fun c h0 hc hp => by unfold par at hp; omega)
  obtain ⟨m, hm⟩ : ∃ m, n / 2 = m := ⟨_, rfl⟩
  have e1 : ((n : Nat) : Int) / 2 = (m : Int) := by omega
  have bm : m ≤ n := by omega
  rw [hm] at HF
  rw [hn] at hl
  have HN := Aside0.mk hn
  clear hm hn
  have HH := Aside0.mk h
  clear h
  go_enter Try.func33, Try.ntmps33
  go_wp2_with (fail)
  refine (len_any w g v l N HH.out).mono ?_
  rintro e w2 ⟨rfl, hw2⟩
  have hw2 := hw2.symm
  subst hw2
  rw [HN.out]
  go_wp2_with (fail)
  go_loopw [3] (fun i wr => ∃ (k : Nat) (l1 : List Sn), i = .int .i64 ((k : Int) - 1) ∧ k ≤ n ∧ Aside0 (BusAt wr g v l1 N) ∧ Aside0 (HpF l1 n k) ∧ Aside0 (l1.Perm l) ∧ Aside0 (Turn g v v w wr)) (fun i _ => (intOf i + 1).toNat)
  case atStart => exact ⟨m, l, rfl, bm, HH, HF, ⟨.refl _⟩, ⟨Turn.refl _ _ _⟩⟩
  case round =>
    obtain ⟨k, l1, rfl, hk, HB, HF1, HP, HT⟩ := hrel
    have hl1 : l1.length = n := by rw [HP.out.length_eq]; exact HN.out
    rcases k with _ | k
    · go_wp2_with (fail)
      go_end0
      exact ⟨rfl, l1, HB.out, HP.out, by rw [hl1]; exact HF1.out.all, HT.out⟩
    · have e2 : ((k + 1 : Nat) : Int) - 1 = (k : Int) := by omega
      rw [e2]
      go_wp2_with (fail)
      refine (down_any wr g v l1 N k n HB.out HF1.out (by omega) (by omega) (by omega)).mono ?_
      rintro e w4 ⟨⟨b, rfl⟩, l4, hb4, hp4, hf4, he4, ht4⟩
      have HB4 := Aside0.mk hb4
      have HP4 := Aside0.mk (hp4.trans HP.out)
      have HF4 := Aside0.mk hf4
      have HT4 := Aside0.mk (HT.out.trans ht4)
      clear hb4 hp4 hf4 he4 ht4
      go_wp2_with (fail)
      go_roundw
      case rel => exact ⟨k, l4, rfl, by omega, HB4, HF4, HP4, HT4⟩
      case measure => simp [intOf]
end Go.Proofs.Ytnjmohdfnicpdaa.Bus
