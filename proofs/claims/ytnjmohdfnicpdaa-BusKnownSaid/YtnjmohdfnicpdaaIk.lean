/- The walk over BusOnce (filled by fill.py). -/
import Derived.Test.YtnjmohdfnicpdaaIj
namespace Go.Proofs.Ytnjmohdfnicpdaa.Bus
open Go.RowKit Go.Shelf Go.Lib Go.Sort Go.Proofs.Ytnjmohdfnicpdaa.Frm Go.Proofs.Ytnjmohdfnicpdaa.Rng Go.Proofs.YtnjmohdfnicpdaaW.PrintWords Go.Proofs.YtnjmohdfnicpdaaW.PrintMore Go.Proofs.YtnjmohdfnicpdaaW.PrintLast

theorem info_bool : (Try.prog.info? 4).map (fun i => (i.zero, i.size, i.bytes)) = some (some (.bool false), 1, 1) := by kernel_rfl
theorem zeros_bool (n : Nat) : madeCells (Value.bool false).cells n = Array.replicate n (.bool false) := by
  apply Array.ext
  · simp [madeCells, Value.cells]
  · intro i h1 h2
    simp [madeCells, Value.cells, Nat.mod_one]
theorem make_bool (n : Nat) (hn : n ≤ 300) (W : World) : (Instr.makeSlice 39 (.int .i64 ((n : Int) + 1)) (.int .i64 ((n : Int) + 1))).run Try.prog W = .ok (.slice (some ⟨W.heap.size, 0, none⟩) (n + 1) (n + 1)) (W.alloc (.cells (Array.replicate (n + 1) (.bool false)) 4)) := by
  have h := info_bool
  cases hi : Try.prog.info? 4 with
  | none => rw [hi] at h; cases h
  | some i =>
    rw [hi] at h
    simp only [Option.map_some, Option.some.injEq, Prod.mk.injEq] at h
    obtain ⟨h1, h2, h3⟩ := h
    have := run_makeSlice (P := Try.prog) (w := W) 39 4 i (.bool false) Try.underlying39 hi h1 .i64 .i64 ((n : Int) + 1) ((n : Int) + 1) (by omega) (Int.le_refl _) (by rw [h2]; simp; omega) (by rw [h3]; omega) (by omega)
    rw [this, h2]
    have h4 : ((n : Int) + 1).toNat = n + 1 := by omega
    rw [h4, Nat.mul_one, zeros_bool]
/-- Has one with that number come? -/
def seenB (cm : List Sn) (i j : Nat) : Bool := (cm.take i).any fun x => x.num == (j : Int)
/-- The cells of a row of what has come. -/
theorem row_cells {w : World} {base : Nat} {ok : Nat → Prop} {A : Option Addr} {n c : Nat} {l : List Sn} (h : Kd.R kSn 35 w base ok (.slice A n c) l) : ∀ j, j < l.length → ∃ gc, A = some ⟨gc, 0, none⟩ ∧ gc < w.heap.size ∧ CellsAt w gc (j * 13) (nth l j) := fun j hj => by
  obtain ⟨A', c', he, -, hC⟩ := Kd.R_reads h
  obtain ⟨hok, inner, ⟨hil0, ho⟩, hr⟩ := h
  rcases ho with ⟨_, h0⟩ | ⟨gb, c2, cur, he2, hb0, hb, _⟩
  · omega
  · simp at he he2
    obtain ⟨rfl, -, -⟩ := he
    obtain ⟨rfl, -, -⟩ := he2
    obtain ⟨ad, hA, hc⟩ := hC.2.2 (by omega)
    obtain ⟨cs, hcl, hK, hcell⟩ := hc j _ (get_nth hj)
    have hK2 : cs = (nth l j).cells := hK
    subst hK2
    cases hA
    have h1 : ∀ q u, (nth l j).cells[q]? = some u → w.cell? ⟨gb, j * 13 + q, none⟩ = some u := fun q u hu => by
      have h2 := hcell q u hu
      rw [Addr.add_mid, Nat.zero_add] at h2
      exact h2
    exact ⟨gb, rfl, (Array.getElem?_eq_some_iff.1 hb).1, h1 0 _ rfl, h1 1 _ rfl, h1 2 _ rfl, h1 3 _ rfl, h1 4 _ rfl, h1 5 _ rfl, h1 6 _ rfl, h1 7 _ rfl, h1 8 _ rfl, h1 9 _ rfl, h1 10 _ rfl, h1 11 _ rfl, h1 12 _ rfl⟩
set_option maxHeartbeats 8000000 in
set_option maxRecDepth 100000 in
theorem once_any (A A2 : Option Addr) (c c2 : Nat) (fl : List Sn) (zs : List Int) (w : World) (hf : FrsAt w A fl) (hz : IntsAt w A2 zs) :
    Calls Try.prog 3 #[.slice A fl.length c, .slice A2 zs.length c2] w (WorkSaid w) := by
  have mixed := mixed
  have HF := Aside0.mk hf
  have HZ := Aside0.mk hz
  obtain ⟨n, hn⟩ : ∃ n, fl.length = n := ⟨_, rfl⟩
  obtain ⟨m, hm⟩ : ∃ m, zs.length = m := ⟨_, rfl⟩
  have HN := Aside0.mk hn
  have HM := Aside0.mk hm
  rw [hn, hm]
  clear hf hz hn hm
  have HPK := Aside0.mk pick_any
  by_cases h300 : 300 < n
  · go_enter Try.func3, Try.ntmps3
    go_wp2_with (fail)
    go_ret
    exact ⟨rfl, Below.refl _ _⟩
  · go_enter Try.func3, Try.ntmps3
    have hd0 : decide ((300 : Int) < (n : Int)) = false := by rw [decide_eq_false_iff_not]; omega
    go_wp2_with (fail)
    refine (bnew_any w).mono ?_
    rintro e w1 ⟨rfl, hb1, hw1⟩
    obtain ⟨g, hg⟩ : ∃ g, w.heap.size = g := ⟨_, rfl⟩
    have HX1 := Aside0.mk (show OnceM w w1 g (.slice none 0 0) [] 0 from ⟨_, [], hg ▸ hb1, fun c _ h => absurd h (Nat.not_lt_zero _), Once.nil, Kd.R_nil _ _ _ _ _, fun k hk => by
      rcases hk with hk | hk
      · omega
      · (cases hk), hw1⟩)
    rw [hg]
    have HG := Aside0.mk hg
    clear hb1 hw1 hg
    go_wp2_with (fail)
    go_loopw [6, 7, 8] (fun v6 sn i wr => ∃ (k : Nat) (come : List Sn) (N : Int), i = .int .i64 k ∧ sn = .int .i64 N ∧ N ≤ k ∧ k ≤ n ∧ Aside0 (OnceM w wr g v6 come N)) (fun _ _ i _ => n - (intOf i).toNat)
    case atStart => exact ⟨0, [], 0, rfl, rfl, by omega, by omega, HX1⟩
    case round =>
      obtain ⟨k, come, N, rfl, rfl, hNk, hkn, HXX⟩ := hrel
      by_cases hlt : k < n
      · obtain ⟨v, l, hx⟩ := HXX.out
        have HX := Aside0.mk hx
        obtain ⟨s, hsk⟩ : ∃ s, fl[k]? = some s := ⟨_, List.getElem?_eq_getElem (by rw [HN.out]; exact hlt)⟩
        obtain ⟨ad, rfl⟩ := HF.out.1 (by rw [HN.out]; omega)
        obtain ⟨f0, f1, f2, f3, f4, f5, f6, f7, f8, f9, f10⟩ := (HF.out.below hx.bel).2 k s hsk ad rfl
        obtain ⟨q, hq⟩ : ∃ q : Int, (k : Int).tmod 7 = q := ⟨_, rfl⟩
        have hq2 : (k : Int) % 7 = q := by rw [← hq, Int.tmod_eq_emod_of_nonneg (by omega)]
        have hll := hx.llen (by omega)
        obtain ⟨r, hr⟩ : ∃ r, sendC ⟨q, s.id, s.len, s.x0, s.x1, s.x2, s.x3, s.x4, s.x5, s.x6, s.x7, s.rem, N⟩ l.length = r := ⟨_, rfl⟩
        have HSE := Aside0.mk (bsend_any wr g v l ⟨q, s.id, s.len, s.x0, s.x1, s.x2, s.x3, s.x4, s.x5, s.x6, s.x7, s.rem, N⟩ r hr hx.bus hx.hp (by omega) ⟨hx.once.n0, by show N < _; omega⟩)
        clear hx hsk hr
        go_wp2_with (fail)
        refine HSE.out.mono ?_
        rintro e w2 ⟨rfl, v2, l2, N2, hb2, hp2, hs2, ht2⟩
        have hoo : Once come l2 N2 ∧ (r = 0 → N2 = N + 1) ∧ (r ≠ 0 → N2 = N) := by
          rcases hs2 with ⟨h1, h2, h3⟩ | ⟨h1, h2, h3⟩
          · have h3 : N2 = N + 1 := h3
            exact ⟨by rw [h3]; exact HX.out.once.send rfl h2, fun _ => h3, fun h => absurd h1 h⟩
          · have h3 : N2 = N := h3
            exact ⟨by rw [h3, h2]; exact HX.out.once, fun h => absurd h h1, fun _ => h3⟩
        obtain ⟨ho2, hr0, hr1⟩ := hoo
        have HX2 := Aside0.mk (HX.out.turn hb2 hp2 ho2 ht2)
        have hN0 := HX.out.once.n0
        clear hb2 hp2 hs2 ht2 ho2 HSE f0 f1 f2 f3 f4 f5 f6 f7 f8 f9 f10 hll
        by_cases hr : r = 0
        · have hN2 := hr0 hr
          subst hr
          clear hr0 hr1
          have e1 : N + 1 = N2 := hN2.symm
          have hN2b : N2 ≤ k + 1 := by omega
          clear hN2
          go_wp2_with (fail)
          go_loopw [6, 9] (fun v6 kk wr => ∃ (p : Nat) (come : List Sn), kk = .int .i64 p ∧ p ≤ 4 ∧ Aside0 (OnceM w wr g v6 come N2)) (fun _ kk _ => 4 - (intOf kk).toNat)
          case atStart => exact ⟨0, come, rfl, by omega, ⟨_, _, HX2.out⟩⟩
          case round =>
            obtain ⟨p, cm, rfl, hp4, HXP⟩ := hrel
            by_cases hkm : k < m
            · obtain ⟨z, hzk⟩ : ∃ z, zs[k]? = some z := ⟨_, List.getElem?_eq_getElem (by rw [HM.out]; exact hkm)⟩
              obtain ⟨ad2, rfl⟩ := HZ.out.1 (by rw [HM.out]; omega)
              obtain ⟨v3, l3, hx3⟩ := HXP.out
              have e0 := (HZ.out.below hx3.bel).2 k z hzk ad2 rfl
              have hb := pick_bound z 4 (by decide)
              have HP := Aside0.mk (HPK.out z 4)
              obtain ⟨u, hu⟩ : ∃ u, pickC z 4 = u := ⟨_, rfl⟩
              rw [hu] at hb HP
              obtain ⟨hb0, hb1⟩ := hb
              have HX3 := Aside0.mk hx3
              clear hzk hu hx3
              go_wp2_with (fail)
              refine (HP.out _ (by decide) (by decide)).mono ?_
              rintro e w0 ⟨rfl, hw0⟩
              have hw0 := hw0.symm
              subst hw0
              clear e0
              by_cases hpu : (p : Int) < u
              · have HNX := Aside0.mk (bnext_any _ g v3 l3 N2 HX3.out.bus HX3.out.hp (by have := HX3.out.llen (by omega); omega))
                go_wp2_with (fail)
                refine HNX.out.mono ?_
                rintro e w4 ⟨x, b, rfl, v4, l4, hb4, hp4, hn4, ht4⟩
                have hal := below_alloc (Below.refl w4.heap.size w4) (.cells #[.int .i64 x.nd, .int .u16 x.id, .int .i64 x.len, .int .u8 x.x0, .int .u8 x.x1, .int .u8 x.x2, .int .u8 x.x3, .int .u8 x.x4, .int .u8 x.x5, .int .u8 x.x6, .int .u8 x.x7, .bool x.rem, .int .i64 x.num] 35)
                have hxn := heap_alloc_new w4 (.cells #[.int .i64 x.nd, .int .u16 x.id, .int .i64 x.len, .int .u8 x.x0, .int .u8 x.x1, .int .u8 x.x2, .int .u8 x.x3, .int .u8 x.x4, .int .u8 x.x5, .int .u8 x.x6, .int .u8 x.x7, .bool x.rem, .int .i64 x.num] 35)
                rcases b with _ | _
                · have ho4 : Once cm l4 N2 := by
                    rcases hn4 with ⟨h1, h2, _, _⟩ | ⟨_, _, h3, _⟩
                    · rw [h2, ← h1]
                      exact HX3.out.once
                    · cases h3
                  have HX4 := Aside0.mk (show OnceM w (w4.alloc (.cells #[.int .i64 x.nd, .int .u16 x.id, .int .i64 x.len, .int .u8 x.x0, .int .u8 x.x1, .int .u8 x.x2, .int .u8 x.x3, .int .u8 x.x4, .int .u8 x.x5, .int .u8 x.x6, .int .u8 x.x7, .bool x.rem, .int .i64 x.num] 35)) g _ cm N2 from ⟨_, _, (HX3.out.turn hb4 hp4 ho4 ht4).below hal⟩)
                  clear hal hxn hb4 hp4 hn4 ht4 ho4 HNX
                  go_wp2_with (fail)
                  go_roundw
                  case rel => exact ⟨k + 1, cm, N2, by go_num, rfl, by omega, by omega, HX4⟩
                  case measure => simp [intOf]; omega
                · have hnx : Once (cm ++ [x]) l4 N2 ∧ ∀ y ∈ l4, ¬ y.id < x.id := by
                    rcases hn4 with ⟨_, _, _, h3⟩ | ⟨h1, h2, _, h4⟩
                    · cases h3
                    · exact HX3.out.once.next HX3.out.hp h2 h4
                  obtain ⟨ho4, hno⟩ := hnx
                  have HX4 := Aside0.mk ((HX3.out.turn hb4 hp4 ho4 ht4).below hal)
                  have HNO := Aside0.mk hno
                  have HXN := Aside0.mk hxn
                  clear hal hxn hb4 hp4 hn4 ht4 ho4 HNX hno
                  go_wp2_with (fail)
                  obtain ⟨t, ht⟩ : ∃ t, w4.heap.size = t := ⟨_, rfl⟩
                  rw [ht] at HXN
                  rw [ht]
                  clear ht
                  generalize w4.alloc (.cells #[.int .i64 x.nd, .int .u16 x.id, .int .i64 x.len, .int .u8 x.x0, .int .u8 x.x1, .int .u8 x.x2, .int .u8 x.x3, .int .u8 x.x4, .int .u8 x.x5, .int .u8 x.x6, .int .u8 x.x7, .bool x.rem, .int .i64 x.num] 35) = W4 at HX4 HXN ⊢
                  refine (waits_any W4 g v4 l4 N2 HX4.out.bus (by have := HX4.out.llen (by omega); omega)).mono ?_
                  rintro e w5 ⟨A5, c5, l5, rfl, hp5, -, hw5, -, hb5⟩
                  have hl5 := (HX4.out.llen (by omega)).1
                  rw [← hp5.length_eq] at hl5
                  have HP5 := Aside0.mk hp5
                  have HW5 := Aside0.mk hw5
                  have HX5 := Aside0.mk (HX4.out.below hb5)
                  have HXN5 := Aside0.mk (blk_below HXN.out hb5)
                  obtain ⟨n5, hn5⟩ : ∃ n5, l5.length = n5 := ⟨_, rfl⟩
                  have HN5 := Aside0.mk hn5
                  rw [hn5] at hl5 ⊢
                  clear hp5 hw5 hb5 hn5
                  go_wp2_with (fail)
                  go_loopw [13] (fun jv wr => ∃ (j : Nat), jv = .int .i64 j ∧ j ≤ n5 ∧ Aside0 (Below w5.heap.size w5 wr)) (fun jv _ => n5 - (intOf jv).toNat)
                  case atStart => exact ⟨0, rfl, Nat.zero_le _, ⟨Below.refl _ _⟩⟩
                  case round =>
                    obtain ⟨j, rfl, hj5, HJ⟩ := hrel
                    by_cases hjl : j < n5
                    · obtain ⟨gb, rfl, hc, -⟩ := HW5.out (by rw [HN5.out]; omega)
                      obtain ⟨y, hy⟩ : ∃ y, nth l5 j = y := ⟨_, rfl⟩
                      have hcj := (hc j (by rw [HN5.out]; exact hjl)).2.1
                      rw [hy] at hcj
                      have hym : y ∈ l4 := by
                        rw [← hy, nth_get (by rw [HN5.out]; exact hjl)]
                        exact HP5.out.mem_iff.1 (List.getElem_mem _)
                      have hny := HNO.out y hym
                      have y1 : ∀ q, (wr.drewN q).cell? ⟨gb, j * 13 + 1, none⟩ = some (.int .u16 y.id) := fun q => pw_cell_below HJ.out hcj
                      have x1 : ∀ q, (wr.drewN q).cell? ⟨t, 1, none⟩ = some (.int .u16 x.id) := fun q => pw_cell_below HJ.out (blk_cell HXN5.out 1)
                      have hdl : decide (y.id < x.id) = false := by rw [decide_eq_false_iff_not]; omega
                      have ej : ((j : Int)).toNat = j := by omega
                      have bj : (j : Int) < (n5 : Int) := by omega
                      clear hy hcj hym hc
                      go_wp2_with (fail)
                      go_quiet (fail)
                      have HJ2 := Aside0.mk (HJ.out.trans ((show Below wr.heap.size wr (wr.drewN nq) from ⟨rfl, rfl, rfl, Nat.le_refl _, fun _ _ => rfl⟩).mono HJ.out.size))
                      generalize wr.drewN nq = wq at HJ2 ⊢
                      clear y1 x1
                      go_wp2_with (fail)
                      go_roundw
                      case rel => exact ⟨j + 1, by go_num, by omega, HJ2⟩
                      case measure => simp [intOf]; omega
                    · have hx6 := HX5.out.below HJ.out
                      have HX6 := Aside0.mk hx6
                      obtain ⟨f0, f1, f2, f3, f4, f5, f6, f7, f8, f9, f10, f11, f12, -⟩ := sn_at (s := x) (blk_below HXN5.out HJ.out)
                      have hcl : cm.length ≤ 1000 := by
                        have := (hx6.llen (by omega)).2
                        rw [List.length_append] at this
                        omega
                      have HCL := Aside0.mk hcl
                      have HSZ := Aside0.mk hx6.bel.size
                      have HFR := Aside0.mk (show ∀ k, wr.heap.size ≤ k → ¬ Mv g v4 k from fun k hk hm => by
                        rcases hm with hm | hm
                        · have := hx6.bus.lt; omega
                        · have := hx6.bus.vlt k hm; omega)
                      clear hx6 hcl
                      go_wp2_with ((with_reducible refine gate_builtin (b := .append) (xs := #[.tmp 81, .tmp 83]) rfl ?_); at_builtin; go_loud (refine Kd.R_append kSn (w0 := w) w.heap.size rfl (.tmp 81) (.tmp 83) 26 35 (.agg #[.int .i64 0, .int .u16 0, .int .i64 0, .int .u8 0, .int .u8 0, .int .u8 0, .int .u8 0, .int .u8 0, .int .u8 0, .int .u8 0, .int .u8 0, .bool false, .int .i64 0]) 48 rfl Try.underlying26 info_sn rfl (by decide) (by decide) _ cm x [.int .i64 x.nd, .int .u16 x.id, .int .i64 x.len, .int .u8 x.x0, .int .u8 x.x1, .int .u8 x.x2, .int .u8 x.x3, .int .u8 x.x4, .int .u8 x.x5, .int .u8 x.x6, .int .u8 x.x7, .bool x.rem, .int .i64 x.num] (fun b => ¬ Mv g v4 b) (fun _ => False) rfl rfl rfl (fun _ hk => hk.elim) (fun k hk => HFR.out k hk) HX6.out.row HX6.out.bel HSZ.out (by have := HCL.out; omega) ?_; intro v7 w7 hown hb hg hat; have HX7 := Aside0.mk (HX6.out.push hown hg hb); clear hown hb hg hat f0 f1 f2 f3 f4 f5 f6 f7 f8 f9 f10 f11 f12))
                      have HX8 := Aside0.mk (show OnceM w w7 g v7 (cm ++ [x]) N2 from ⟨_, _, HX7.out⟩)
                      go_roundw
                      case rel => exact ⟨p + 1, cm ++ [x], by go_num, by omega, HX8⟩
                      case measure => simp [intOf]; omega
              ·
                go_wp2_with (fail)
                go_roundw
                case rel => exact ⟨k + 1, cm, N2, by go_num, rfl, by omega, by omega, HXP⟩
                case measure => simp [intOf]; omega
            ·
              go_wp2_with (fail)
              go_roundw
              case rel => exact ⟨k + 1, cm, N2, by go_num, rfl, by omega, by omega, HXP⟩
              case measure => simp [intOf]; omega
        · have hN2 := hr1 hr
          have hrb : (r == 0) = false := by rw [beq_eq_false_iff_ne]; exact hr
          subst hN2
          have hN2b : N2 ≤ k + 1 := by omega
          clear hr0 hr1 hr
          go_wp2_with (fail)
          go_loopw [6, 9] (fun v6 kk wr => ∃ (p : Nat) (come : List Sn), kk = .int .i64 p ∧ p ≤ 4 ∧ Aside0 (OnceM w wr g v6 come N2)) (fun _ kk _ => 4 - (intOf kk).toNat)
          case atStart => exact ⟨0, come, rfl, by omega, ⟨_, _, HX2.out⟩⟩
          case round =>
            obtain ⟨p, cm, rfl, hp4, HXP⟩ := hrel
            by_cases hkm : k < m
            · obtain ⟨z, hzk⟩ : ∃ z, zs[k]? = some z := ⟨_, List.getElem?_eq_getElem (by rw [HM.out]; exact hkm)⟩
              obtain ⟨ad2, rfl⟩ := HZ.out.1 (by rw [HM.out]; omega)
              obtain ⟨v3, l3, hx3⟩ := HXP.out
              have e0 := (HZ.out.below hx3.bel).2 k z hzk ad2 rfl
              have hb := pick_bound z 4 (by decide)
              have HP := Aside0.mk (HPK.out z 4)
              obtain ⟨u, hu⟩ : ∃ u, pickC z 4 = u := ⟨_, rfl⟩
              rw [hu] at hb HP
              obtain ⟨hb0, hb1⟩ := hb
              have HX3 := Aside0.mk hx3
              clear hzk hu hx3
              go_wp2_with (fail)
              refine (HP.out _ (by decide) (by decide)).mono ?_
              rintro e w0 ⟨rfl, hw0⟩
              have hw0 := hw0.symm
              subst hw0
              clear e0
              by_cases hpu : (p : Int) < u
              · have HNX := Aside0.mk (bnext_any _ g v3 l3 N2 HX3.out.bus HX3.out.hp (by have := HX3.out.llen (by omega); omega))
                go_wp2_with (fail)
                refine HNX.out.mono ?_
                rintro e w4 ⟨x, b, rfl, v4, l4, hb4, hp4, hn4, ht4⟩
                have hal := below_alloc (Below.refl w4.heap.size w4) (.cells #[.int .i64 x.nd, .int .u16 x.id, .int .i64 x.len, .int .u8 x.x0, .int .u8 x.x1, .int .u8 x.x2, .int .u8 x.x3, .int .u8 x.x4, .int .u8 x.x5, .int .u8 x.x6, .int .u8 x.x7, .bool x.rem, .int .i64 x.num] 35)
                have hxn := heap_alloc_new w4 (.cells #[.int .i64 x.nd, .int .u16 x.id, .int .i64 x.len, .int .u8 x.x0, .int .u8 x.x1, .int .u8 x.x2, .int .u8 x.x3, .int .u8 x.x4, .int .u8 x.x5, .int .u8 x.x6, .int .u8 x.x7, .bool x.rem, .int .i64 x.num] 35)
                rcases b with _ | _
                · have ho4 : Once cm l4 N2 := by
                    rcases hn4 with ⟨h1, h2, _, _⟩ | ⟨_, _, h3, _⟩
                    · rw [h2, ← h1]
                      exact HX3.out.once
                    · cases h3
                  have HX4 := Aside0.mk (show OnceM w (w4.alloc (.cells #[.int .i64 x.nd, .int .u16 x.id, .int .i64 x.len, .int .u8 x.x0, .int .u8 x.x1, .int .u8 x.x2, .int .u8 x.x3, .int .u8 x.x4, .int .u8 x.x5, .int .u8 x.x6, .int .u8 x.x7, .bool x.rem, .int .i64 x.num] 35)) g _ cm N2 from ⟨_, _, (HX3.out.turn hb4 hp4 ho4 ht4).below hal⟩)
                  clear hal hxn hb4 hp4 hn4 ht4 ho4 HNX
                  go_wp2_with (fail)
                  go_roundw
                  case rel => exact ⟨k + 1, cm, N2, by go_num, rfl, by omega, by omega, HX4⟩
                  case measure => simp [intOf]; omega
                · have hnx : Once (cm ++ [x]) l4 N2 ∧ ∀ y ∈ l4, ¬ y.id < x.id := by
                    rcases hn4 with ⟨_, _, _, h3⟩ | ⟨h1, h2, _, h4⟩
                    · cases h3
                    · exact HX3.out.once.next HX3.out.hp h2 h4
                  obtain ⟨ho4, hno⟩ := hnx
                  have HX4 := Aside0.mk ((HX3.out.turn hb4 hp4 ho4 ht4).below hal)
                  have HNO := Aside0.mk hno
                  have HXN := Aside0.mk hxn
                  clear hal hxn hb4 hp4 hn4 ht4 ho4 HNX hno
                  go_wp2_with (fail)
                  obtain ⟨t, ht⟩ : ∃ t, w4.heap.size = t := ⟨_, rfl⟩
                  rw [ht] at HXN
                  rw [ht]
                  clear ht
                  generalize w4.alloc (.cells #[.int .i64 x.nd, .int .u16 x.id, .int .i64 x.len, .int .u8 x.x0, .int .u8 x.x1, .int .u8 x.x2, .int .u8 x.x3, .int .u8 x.x4, .int .u8 x.x5, .int .u8 x.x6, .int .u8 x.x7, .bool x.rem, .int .i64 x.num] 35) = W4 at HX4 HXN ⊢
                  refine (waits_any W4 g v4 l4 N2 HX4.out.bus (by have := HX4.out.llen (by omega); omega)).mono ?_
                  rintro e w5 ⟨A5, c5, l5, rfl, hp5, -, hw5, -, hb5⟩
                  have hl5 := (HX4.out.llen (by omega)).1
                  rw [← hp5.length_eq] at hl5
                  have HP5 := Aside0.mk hp5
                  have HW5 := Aside0.mk hw5
                  have HX5 := Aside0.mk (HX4.out.below hb5)
                  have HXN5 := Aside0.mk (blk_below HXN.out hb5)
                  obtain ⟨n5, hn5⟩ : ∃ n5, l5.length = n5 := ⟨_, rfl⟩
                  have HN5 := Aside0.mk hn5
                  rw [hn5] at hl5 ⊢
                  clear hp5 hw5 hb5 hn5
                  go_wp2_with (fail)
                  go_loopw [13] (fun jv wr => ∃ (j : Nat), jv = .int .i64 j ∧ j ≤ n5 ∧ Aside0 (Below w5.heap.size w5 wr)) (fun jv _ => n5 - (intOf jv).toNat)
                  case atStart => exact ⟨0, rfl, Nat.zero_le _, ⟨Below.refl _ _⟩⟩
                  case round =>
                    obtain ⟨j, rfl, hj5, HJ⟩ := hrel
                    by_cases hjl : j < n5
                    · obtain ⟨gb, rfl, hc, -⟩ := HW5.out (by rw [HN5.out]; omega)
                      obtain ⟨y, hy⟩ : ∃ y, nth l5 j = y := ⟨_, rfl⟩
                      have hcj := (hc j (by rw [HN5.out]; exact hjl)).2.1
                      rw [hy] at hcj
                      have hym : y ∈ l4 := by
                        rw [← hy, nth_get (by rw [HN5.out]; exact hjl)]
                        exact HP5.out.mem_iff.1 (List.getElem_mem _)
                      have hny := HNO.out y hym
                      have y1 : ∀ q, (wr.drewN q).cell? ⟨gb, j * 13 + 1, none⟩ = some (.int .u16 y.id) := fun q => pw_cell_below HJ.out hcj
                      have x1 : ∀ q, (wr.drewN q).cell? ⟨t, 1, none⟩ = some (.int .u16 x.id) := fun q => pw_cell_below HJ.out (blk_cell HXN5.out 1)
                      have hdl : decide (y.id < x.id) = false := by rw [decide_eq_false_iff_not]; omega
                      have ej : ((j : Int)).toNat = j := by omega
                      have bj : (j : Int) < (n5 : Int) := by omega
                      clear hy hcj hym hc
                      go_wp2_with (fail)
                      go_quiet (fail)
                      have HJ2 := Aside0.mk (HJ.out.trans ((show Below wr.heap.size wr (wr.drewN nq) from ⟨rfl, rfl, rfl, Nat.le_refl _, fun _ _ => rfl⟩).mono HJ.out.size))
                      generalize wr.drewN nq = wq at HJ2 ⊢
                      clear y1 x1
                      go_wp2_with (fail)
                      go_roundw
                      case rel => exact ⟨j + 1, by go_num, by omega, HJ2⟩
                      case measure => simp [intOf]; omega
                    · have hx6 := HX5.out.below HJ.out
                      have HX6 := Aside0.mk hx6
                      obtain ⟨f0, f1, f2, f3, f4, f5, f6, f7, f8, f9, f10, f11, f12, -⟩ := sn_at (s := x) (blk_below HXN5.out HJ.out)
                      have hcl : cm.length ≤ 1000 := by
                        have := (hx6.llen (by omega)).2
                        rw [List.length_append] at this
                        omega
                      have HCL := Aside0.mk hcl
                      have HSZ := Aside0.mk hx6.bel.size
                      have HFR := Aside0.mk (show ∀ k, wr.heap.size ≤ k → ¬ Mv g v4 k from fun k hk hm => by
                        rcases hm with hm | hm
                        · have := hx6.bus.lt; omega
                        · have := hx6.bus.vlt k hm; omega)
                      clear hx6 hcl
                      go_wp2_with ((with_reducible refine gate_builtin (b := .append) (xs := #[.tmp 81, .tmp 83]) rfl ?_); at_builtin; go_loud (refine Kd.R_append kSn (w0 := w) w.heap.size rfl (.tmp 81) (.tmp 83) 26 35 (.agg #[.int .i64 0, .int .u16 0, .int .i64 0, .int .u8 0, .int .u8 0, .int .u8 0, .int .u8 0, .int .u8 0, .int .u8 0, .int .u8 0, .int .u8 0, .bool false, .int .i64 0]) 48 rfl Try.underlying26 info_sn rfl (by decide) (by decide) _ cm x [.int .i64 x.nd, .int .u16 x.id, .int .i64 x.len, .int .u8 x.x0, .int .u8 x.x1, .int .u8 x.x2, .int .u8 x.x3, .int .u8 x.x4, .int .u8 x.x5, .int .u8 x.x6, .int .u8 x.x7, .bool x.rem, .int .i64 x.num] (fun b => ¬ Mv g v4 b) (fun _ => False) rfl rfl rfl (fun _ hk => hk.elim) (fun k hk => HFR.out k hk) HX6.out.row HX6.out.bel HSZ.out (by have := HCL.out; omega) ?_; intro v7 w7 hown hb hg hat; have HX7 := Aside0.mk (HX6.out.push hown hg hb); clear hown hb hg hat f0 f1 f2 f3 f4 f5 f6 f7 f8 f9 f10 f11 f12))
                      have HX8 := Aside0.mk (show OnceM w w7 g v7 (cm ++ [x]) N2 from ⟨_, _, HX7.out⟩)
                      go_roundw
                      case rel => exact ⟨p + 1, cm ++ [x], by go_num, by omega, HX8⟩
                      case measure => simp [intOf]; omega
              ·
                go_wp2_with (fail)
                go_roundw
                case rel => exact ⟨k + 1, cm, N2, by go_num, rfl, by omega, by omega, HXP⟩
                case measure => simp [intOf]; omega
            ·
              go_wp2_with (fail)
              go_roundw
              case rel => exact ⟨k + 1, cm, N2, by go_num, rfl, by omega, by omega, HXP⟩
              case measure => simp [intOf]; omega
      · go_wp2_with (fail)
        have HX0 := HXX
        clear HXX
        go_loopw [6] (fun v6 wr => ∃ come : List Sn, lenV v6 = come.length ∧ Aside0 (OnceM w wr g v6 come N)) (fun v6 _ => (N - lenV v6).toNat)
        case atStart =>
          obtain ⟨v, l, hx⟩ := HX0.out
          obtain ⟨A1, c1, he, -⟩ := Kd.R_reads hx.row
          exact ⟨come, by rw [he]; rfl, HX0⟩
        case round =>
          obtain ⟨cm, hlen, HXP⟩ := hrel
          obtain ⟨v3, l3, hx3⟩ := HXP.out
          have HX3 := Aside0.mk hx3
          have HNX := Aside0.mk (bnext_any _ g v3 l3 N hx3.bus hx3.hp (by have := hx3.llen (by omega); omega))
          clear hx3
          go_wp2_with (fail)
          refine HNX.out.mono ?_
          rintro e w4 ⟨x, b, rfl, v4, l4, hb4, hp4, hn4, ht4⟩
          have hal := below_alloc (Below.refl w4.heap.size w4) (.cells #[.int .i64 x.nd, .int .u16 x.id, .int .i64 x.len, .int .u8 x.x0, .int .u8 x.x1, .int .u8 x.x2, .int .u8 x.x3, .int .u8 x.x4, .int .u8 x.x5, .int .u8 x.x6, .int .u8 x.x7, .bool x.rem, .int .i64 x.num] 35)
          have hxn := heap_alloc_new w4 (.cells #[.int .i64 x.nd, .int .u16 x.id, .int .i64 x.len, .int .u8 x.x0, .int .u8 x.x1, .int .u8 x.x2, .int .u8 x.x3, .int .u8 x.x4, .int .u8 x.x5, .int .u8 x.x6, .int .u8 x.x7, .bool x.rem, .int .i64 x.num] 35)
          rcases b with _ | _
          · have ho4 : Once cm [] N ∧ l4 = [] := by
              rcases hn4 with ⟨h1, h2, _, _⟩ | ⟨_, _, h3, _⟩
              · have := HX3.out.once
                rw [h1] at this
                exact ⟨this, h2⟩
              · cases h3
            obtain ⟨ho4, rfl⟩ := ho4
            have HO4 := Aside0.mk ho4
            have HX4 := Aside0.mk ((HX3.out.turn hb4 hp4 ho4 ht4).below hal)
            clear hal hxn hb4 hp4 hn4 ht4 ho4 HNX
            obtain ⟨A6, c6, rfl, -, -⟩ := Kd.R_reads HX4.out.row
            have HRW := Aside0.mk (row_cells HX4.out.row)
            have HMK := make_bool n (by omega)
            obtain ⟨M, hM⟩ : ∃ M, cm.length = M := ⟨_, rfl⟩
            obtain rfl : N = (M : Int) := by
              have := HO4.out.cnt
              simp only [List.length_nil, Nat.add_zero] at this
              omega
            have HML := Aside0.mk hM
            rw [hM] at hlen ⊢
            clear hM
            go_upto_region 26 with (fail)
            generalize w4.alloc (.cells #[.int .i64 x.nd, .int .u16 x.id, .int .i64 x.len, .int .u8 x.x0, .int .u8 x.x1, .int .u8 x.x2, .int .u8 x.x3, .int .u8 x.x4, .int .u8 x.x5, .int .u8 x.x6, .int .u8 x.x7, .bool x.rem, .int .i64 x.num] 35) = W4 at HX4 HRW ⊢
            have hMK := HMK W4
            have hcw := below_alloc (Below.refl W4.heap.size W4) (.cells (Array.replicate (n + 1) (.bool false)) 4)
            have hcn := heap_alloc_new W4 (.cells (Array.replicate (n + 1) (.bool false)) 4)
            have HCW := Aside0.mk hcw
            have HCN := Aside0.mk hcn
            clear HMK hcw hcn
            go_upto_region 27 with (fail)
            obtain ⟨gs, hgs⟩ : ∃ gs, W4.heap.size = gs := ⟨_, rfl⟩
            have HGS := Aside0.mk hgs
            rw [hgs] at HCN
            rw [hgs]
            clear hgs hMK
            generalize W4.alloc (.cells (Array.replicate (n + 1) (.bool false)) 4) = W9 at HCW HCN ⊢
            go_wp2_with (fail)
            go_loopw [17] (fun iv wr => ∃ i : Nat, iv = .int .i64 i ∧ i ≤ M ∧ Aside0 (Fr (fun k => k = gs) W4 wr) ∧ Aside0 (∀ j, j ≤ n → wr.cell? ⟨gs, j, none⟩ = some (.bool (seenB cm i j))) ∧ Aside0 (∀ j, wr.frozen? ⟨gs, j, none⟩ = false)) (fun iv _ => M - (intOf iv).toNat)
            case atStart =>
              refine ⟨0, rfl, Nat.zero_le _, ⟨Fr.of_below HCW.out⟩, ⟨fun j hj => ?_⟩, ⟨fun j => blk_frozen HCN.out j⟩⟩
              rw [blk_cell HCN.out, Array.getElem?_replicate, if_pos (by omega)]
              rfl
            case round =>
              obtain ⟨i, rfl, hiM, HFI, HSB, HFZ⟩ := hrel
              by_cases hi : i < M
              · obtain ⟨gc, rfl, hgc, hc⟩ := HRW.out i (by rw [HML.out]; exact hi)
                obtain ⟨y, hy⟩ : ∃ y, nth cm i = y := ⟨_, rfl⟩
                rw [hy] at hc
                have hic : i < cm.length := by rw [HML.out]; exact hi
                have hym : y ∈ cm := by rw [← hy, nth_get hic]; exact List.getElem_mem _
                have hyb := HO4.out.bnd y (.inl hym)
                obtain ⟨q, hq⟩ : ∃ q : Nat, y.num = (q : Int) := ⟨y.num.toNat, by omega⟩
                have hsq : seenB cm i q = false := by
                  unfold seenB
                  rw [List.any_eq_false]
                  intro z hz
                  have hd := HO4.out.dst
                  rw [List.append_nil] at hd
                  obtain ⟨j, hj, rfl⟩ := List.getElem_of_mem hz
                  rw [List.length_take] at hj
                  rw [List.getElem_take]
                  have h1 := (List.pairwise_iff_getElem.1 hd) j i (by omega) hic (by omega)
                  rw [nth_get hic] at hy
                  rw [hy, hq] at h1
                  simpa using h1
                have HSN := Aside0.mk (show ∀ j : Nat, seenB cm (i + 1) j = (seenB cm i j || (q == j)) from fun j => by
                  unfold seenB
                  rw [List.take_add_one, get_nth hic, hy, List.any_append]
                  simp only [Option.toList_some, List.any_cons, List.any_nil, Bool.or_false]
                  rw [hq]
                  congr 1
                  exact Bool.eq_iff_iff.2 (by simp only [beq_iff_eq]; omega))
                have hgne : gc ≠ gs := by have := HGS.out; omega
                have y12 : wr.cell? ⟨gc, i * 13 + 12, none⟩ = some (.int .i64 (q : Int)) := by
                  have h1 := HFI.out.cell hc.2.2.2.2.2.2.2.2.2.2.2.2 (fun e => hgne e)
                  rwa [hq] at h1
                have hqM : q < M := by omega
                have hqM2 : ¬ M ≤ q := by omega
                have hqn : q ≤ n := by omega
                have s0 : wr.cell? ⟨gs, q, none⟩ = some (.bool false) := by
                  have h1 := HSB.out q hqn
                  rwa [hsq] at h1
                have sf : wr.frozen? ⟨gs, q, none⟩ = false := HFZ.out q
                have hb1 : decide ((q : Int) < 0) = false := by rw [decide_eq_false_iff_not]; omega
                have hb2 : decide ((M : Int) ≤ (q : Int)) = false := by rw [decide_eq_false_iff_not]; omega
                have eq1 : ((q : Int)).toNat = q := by omega
                have ei1 : ((i : Int)).toNat = i := by omega
                have bq : (q : Int) < (n : Int) + 1 := by omega
                have bi : (i : Int) < (M : Int) := by omega
                have HQ := Aside0.mk hq
                have HY := Aside0.mk hy
                have HYC := Aside0.mk hc
                have HFS := Aside0.mk (show Fr (fun k => k = gs) W4 (wr.setCell ⟨gs, q, none⟩ (.bool true)) from HFI.out.trans (Fr.setCell wr ⟨gs, q, none⟩ _ (.inl rfl)))
                have HSS := Aside0.mk (show ∀ j, j ≤ n → (wr.setCell ⟨gs, q, none⟩ (.bool true)).cell? ⟨gs, j, none⟩ = some (.bool (seenB cm (i + 1) j)) from fun j hj => by
                  rw [HSN.out j]
                  by_cases hjq : j = q
                  · subst hjq
                    have h1 := World.cell?_setCells_in gs [.bool true] j wr (fun t ht => by
                      have : t = 0 := by simpa using ht
                      subst this
                      exact Option.isSome_iff_exists.2 ⟨_, s0⟩) 0 (by simp)
                    have h2 : (wr.setCell ⟨gs, j, none⟩ (.bool true)).cell? ⟨gs, j, none⟩ = some (.bool true) := h1
                    rw [h2]
                    simp
                  · have h1 := World.cell?_setCells_out gs [.bool true] q wr ⟨gs, j, none⟩ (fun _ _ => by simp only [List.length_singleton]; omega)
                    have h2 : (wr.setCell ⟨gs, q, none⟩ (.bool true)).cell? ⟨gs, j, none⟩ = wr.cell? ⟨gs, j, none⟩ := h1
                    have h3 : (q == j) = false := by rw [beq_eq_false_iff_ne]; omega
                    rw [h2, HSB.out j hj, h3, Bool.or_false])
                have HZZ := Aside0.mk (show ∀ j, (wr.setCell ⟨gs, q, none⟩ (.bool true)).frozen? ⟨gs, j, none⟩ = false from fun j => by
                  have h1 := World.frozen?_setCells gs [.bool true] q wr ⟨gs, j, none⟩
                  exact (show (wr.setCell ⟨gs, q, none⟩ (.bool true)).frozen? ⟨gs, j, none⟩ = wr.frozen? ⟨gs, j, none⟩ from h1).trans (HFZ.out j))
                clear hc hym hyb hq hy hsq
                go_wp2_with (fail)
                clear y12 s0 sf
                generalize wr.setCell ⟨gs, q, none⟩ (.bool true) = W10 at HFS HSS HZZ ⊢
                go_loopw [19] (fun kv wr => ∃ j : Nat, kv = .int .i64 j ∧ j ≤ i ∧ Aside0 (Below W10.heap.size W10 wr)) (fun kv _ => i - (intOf kv).toNat)
                case atStart => exact ⟨0, rfl, Nat.zero_le _, ⟨Below.refl _ _⟩⟩
                case round =>
                  obtain ⟨j, rfl, hji, HJ⟩ := hrel
                  by_cases hj : j < i
                  · obtain ⟨gc2, hA2, -, hz⟩ := HRW.out j (by rw [HML.out]; omega)
                    obtain rfl : gc = gc2 := by
                      simp at hA2
                      exact hA2
                    obtain ⟨z, hzz⟩ : ∃ z, nth cm j = z := ⟨_, rfl⟩
                    rw [hzz] at hz
                    have hfr := HFS.out.trans (Fr.of_below (M := fun k => k = gs) HJ.out)
                    have z1 : ∀ q, (wr.drewN q).cell? ⟨gc, j * 13 + 1, none⟩ = some (.int .u16 z.id) := fun _ => hfr.cell hz.2.1 (fun e => hgne e)
                    have z11 : ∀ q, (wr.drewN q).cell? ⟨gc, j * 13 + 11, none⟩ = some (.bool z.rem) := fun _ => hfr.cell hz.2.2.2.2.2.2.2.2.2.2.2.1 (fun e => hgne e)
                    have z12 : ∀ q, (wr.drewN q).cell? ⟨gc, j * 13 + 12, none⟩ = some (.int .i64 z.num) := fun _ => hfr.cell hz.2.2.2.2.2.2.2.2.2.2.2.2 (fun e => hgne e)
                    have y1 : ∀ q, (wr.drewN q).cell? ⟨gc, i * 13 + 1, none⟩ = some (.int .u16 y.id) := fun _ => hfr.cell HYC.out.2.1 (fun e => hgne e)
                    have y11 : ∀ q, (wr.drewN q).cell? ⟨gc, i * 13 + 11, none⟩ = some (.bool y.rem) := fun _ => hfr.cell HYC.out.2.2.2.2.2.2.2.2.2.2.2.1 (fun e => hgne e)
                    have hlk : like z y = true → z.num < (q : Int) := fun hl => by
                      have hjc : j < cm.length := by rw [HML.out]; omega
                      have h1 := (List.pairwise_iff_getElem.1 HO4.out.ord) j i hjc hic hj
                      rw [← nth_get hjc, ← nth_get hic, hzz, HY.out, HQ.out] at h1
                      exact h1 hl
                    have HLK := Aside0.mk hlk
                    have HZI := Aside0.mk (show like z y = (z.id == y.id && z.rem == y.rem) from rfl)
                    have ej1 : ((j : Int)).toNat = j := by omega
                    have bj : (j : Int) < (M : Int) := by omega
                    clear hz hfr hzz hlk hA2
                    obtain ⟨b1, hb3⟩ : ∃ b1, (z.id == y.id) = b1 := ⟨_, rfl⟩
                    obtain ⟨b2, hb4⟩ : ∃ b2, (z.rem == y.rem) = b2 := ⟨_, rfl⟩
                    rw [hb3, hb4] at HZI
                    rcases b1 with _ | _
                    · go_wp2_with (fail)
                      go_quiet (fail)
                      have HJ2 := Aside0.mk (HJ.out.trans ((show Below wr.heap.size wr (wr.drewN nq) from ⟨rfl, rfl, rfl, Nat.le_refl _, fun _ _ => rfl⟩).mono HJ.out.size))
                      generalize wr.drewN nq = wq at HJ2 ⊢
                      clear z1 z11 z12 y1 y11
                      go_wp2_with (fail)
                      go_roundw
                      case rel => exact ⟨j + 1, by go_num, by omega, HJ2⟩
                      case measure => simp [intOf]; omega
                    · rcases b2 with _ | _
                      · go_wp2_with (fail)
                        go_quiet (fail)
                        have HJ2 := Aside0.mk (HJ.out.trans ((show Below wr.heap.size wr (wr.drewN nq) from ⟨rfl, rfl, rfl, Nat.le_refl _, fun _ _ => rfl⟩).mono HJ.out.size))
                        generalize wr.drewN nq = wq at HJ2 ⊢
                        clear z1 z11 z12 y1 y11
                        go_wp2_with (fail)
                        go_roundw
                        case rel => exact ⟨j + 1, by go_num, by omega, HJ2⟩
                        case measure => simp [intOf]; omega
                      · have hb5 : decide ((q : Int) < z.num) = false := by
                          have h1 := HLK.out (by rw [HZI.out]; rfl)
                          rw [decide_eq_false_iff_not]
                          omega
                        go_wp2_with (fail)
                        go_quiet (fail)
                        have HJ2 := Aside0.mk (HJ.out.trans ((show Below wr.heap.size wr (wr.drewN nq) from ⟨rfl, rfl, rfl, Nat.le_refl _, fun _ _ => rfl⟩).mono HJ.out.size))
                        generalize wr.drewN nq = wq at HJ2 ⊢
                        clear z1 z11 z12 y1 y11
                        go_wp2_with (fail)
                        go_roundw
                        case rel => exact ⟨j + 1, by go_num, by omega, HJ2⟩
                        case measure => simp [intOf]; omega
                  · have HFK := Aside0.mk (HFS.out.trans (Fr.of_below (M := fun k => k = gs) HJ.out))
                    have HSK := Aside0.mk (show ∀ j, j ≤ n → wr.cell? ⟨gs, j, none⟩ = some (.bool (seenB cm (i + 1) j)) from fun j hj => pw_cell_below HJ.out (HSS.out j hj))
                    have HZK := Aside0.mk (show ∀ j, wr.frozen? ⟨gs, j, none⟩ = false from fun j => (HJ.out.frozen (p := ⟨gs, j, none⟩) (show gs < W10.heap.size from World.block_lt_of_cell? W10 ⟨gs, 0, none⟩ (HSS.out 0 (Nat.zero_le _)))).trans (HZZ.out j))
                    go_wp2_with (fail)
                    go_roundw
                    case rel => exact ⟨i + 1, by go_num, by omega, HFK, HSK, HZK⟩
                    case measure => simp [intOf]; omega
              · obtain rfl : i = M := by omega
                have HCT := Aside0.mk (bcount_any wr g v4 [] _ (HX4.out.bus.fr HFI.out (fun e => by have h1 := HX4.out.bus.lt; have h2 := HGS.out; omega) (fun k hk e => by have h1 := HX4.out.bus.vlt k hk; have h2 := HGS.out; omega)))
                have HBL := Aside0.mk (show Below w.heap.size w wr from HX4.out.bel.trans (HFI.out.below (fun k hk => by have h1 := HX4.out.bel.size; have h2 := HGS.out; exact ⟨by omega, by omega⟩)))
                have HWK := Aside0.mk (works_any wr)
                go_wp2_with (fail)
                refine HCT.out.mono ?_
                rintro e w11 ⟨rfl, hw11⟩
                have hw11 := hw11.symm
                subst hw11
                go_wp2_with (fail)
                refine HWK.out.mono ?_
                rintro e w12 ⟨rfl, hb12⟩
                have HBF := Aside0.mk (HBL.out.trans (hb12.mono HBL.out.size))
                clear hb12 HWK
                go_wp2_with (fail)
                go_ret
                exact ⟨rfl, HBF.out⟩
          · have hnx : Once (cm ++ [x]) l4 N := by
              rcases hn4 with ⟨_, _, _, h3⟩ | ⟨h1, h2, _, h4⟩
              · cases h3
              · exact (HX3.out.once.next HX3.out.hp h2 h4).1
            have hcn := hnx.cnt
            rw [List.length_append, List.length_singleton] at hcn
            have HX4 := Aside0.mk ((HX3.out.turn hb4 hp4 hnx ht4).below hal)
            obtain ⟨f0, f1, f2, f3, f4, f5, f6, f7, f8, f9, f10, f11, f12, -⟩ := sn_at (s := x) hxn
            have hcl : cm.length ≤ 1000 := by omega
            have HCL := Aside0.mk hcl
            have HLN := Aside0.mk hlen
            have HCN := Aside0.mk hcn
            have HSZ := Aside0.mk HX4.out.bel.size
            have HFR := Aside0.mk (show ∀ k, (w4.alloc (.cells #[.int .i64 x.nd, .int .u16 x.id, .int .i64 x.len, .int .u8 x.x0, .int .u8 x.x1, .int .u8 x.x2, .int .u8 x.x3, .int .u8 x.x4, .int .u8 x.x5, .int .u8 x.x6, .int .u8 x.x7, .bool x.rem, .int .i64 x.num] 35)).heap.size ≤ k → ¬ Mv g v4 k from fun k hk hm => by
              rcases hm with hm | hm
              · have := HX4.out.bus.lt; omega
              · have := HX4.out.bus.vlt k hm; omega)
            have HXN := Aside0.mk hxn
            clear hal hxn hb4 hp4 hn4 ht4 hnx HNX hcl hlen hcn f0 f1 f2 f3 f4 f5 f6 f7 f8 f9 f10 f11 f12
            go_upto_region 25 with (fail)
            obtain ⟨t, ht⟩ : ∃ t, w4.heap.size = t := ⟨_, rfl⟩
            rw [ht] at HXN
            rw [ht]
            clear ht
            generalize w4.alloc (.cells #[.int .i64 x.nd, .int .u16 x.id, .int .i64 x.len, .int .u8 x.x0, .int .u8 x.x1, .int .u8 x.x2, .int .u8 x.x3, .int .u8 x.x4, .int .u8 x.x5, .int .u8 x.x6, .int .u8 x.x7, .bool x.rem, .int .i64 x.num] 35) = W4 at HX4 HXN HSZ HFR ⊢
            obtain ⟨f0, f1, f2, f3, f4, f5, f6, f7, f8, f9, f10, f11, f12, -⟩ := sn_at (s := x) HXN.out
            go_wp2_with ((with_reducible refine gate_builtin (b := .append) (xs := #[.tmp 92, .tmp 94]) rfl ?_); at_builtin; go_loud (refine Kd.R_append kSn (w0 := w) w.heap.size rfl (.tmp 92) (.tmp 94) 26 35 (.agg #[.int .i64 0, .int .u16 0, .int .i64 0, .int .u8 0, .int .u8 0, .int .u8 0, .int .u8 0, .int .u8 0, .int .u8 0, .int .u8 0, .int .u8 0, .bool false, .int .i64 0]) 48 rfl Try.underlying26 info_sn rfl (by decide) (by decide) _ cm x [.int .i64 x.nd, .int .u16 x.id, .int .i64 x.len, .int .u8 x.x0, .int .u8 x.x1, .int .u8 x.x2, .int .u8 x.x3, .int .u8 x.x4, .int .u8 x.x5, .int .u8 x.x6, .int .u8 x.x7, .bool x.rem, .int .i64 x.num] (fun b => ¬ Mv g v4 b) (fun _ => False) rfl rfl rfl (fun _ hk => hk.elim) (fun k hk => HFR.out k hk) HX4.out.row HX4.out.bel HSZ.out (by have := HCL.out; omega) ?_; intro v7 w7 hown hb hg hat; have HX7 := Aside0.mk (HX4.out.push hown hg hb); clear hown hb hg hat f0 f1 f2 f3 f4 f5 f6 f7 f8 f9 f10 f11 f12))
            have HX8 := Aside0.mk (show OnceM w w7 g v7 (cm ++ [x]) N from ⟨_, _, HX7.out⟩)
            have hl7 : lenV v7 = (cm ++ [x]).length := by
              obtain ⟨A1, c1, he, -⟩ := Kd.R_reads HX7.out.row
              rw [he]
              rfl
            go_roundw
            case rel => exact ⟨cm ++ [x], hl7, HX8⟩
            case measure =>
              have h1 := HLN.out
              have h2 := HCN.out
              rw [List.length_append, List.length_singleton] at hl7
              simp [hl7, h1]
              omega
end Go.Proofs.Ytnjmohdfnicpdaa.Bus
