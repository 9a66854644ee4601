/- same: do both have the same waiting (filled by fill.py). -/
import Derived.Test.YtnjmohdfnicpdaaIb
namespace Go.Proofs.Ytnjmohdfnicpdaa.Bus
open Go.RowKit Go.Shelf Go.Lib Go.Sort Go.Proofs.Ytnjmohdfnicpdaa.Frm Go.Proofs.Ytnjmohdfnicpdaa.Rng Go.Proofs.YtnjmohdfnicpdaaW.PrintWords Go.Proofs.YtnjmohdfnicpdaaW.PrintMore Go.Proofs.YtnjmohdfnicpdaaW.PrintLast

/-- Both have the same waiting. -/
def SameSaid (w : World) (e : Ending) (w' : World) : Prop := e = .returned (.bool true) ∧ Below w.heap.size w w'
set_option maxHeartbeats 8000000 in
set_option maxRecDepth 100000 in
theorem same_any (w : World) (S : Nat → Prop) (g gm : Nat) (L : List Sn) (N : Int) (h : PairW w S g gm L N) :
    Calls Try.prog 17 #[.pointer (some ⟨g, 0, none⟩), .pointer (some ⟨gm, 0, none⟩)] w (SameSaid w) := by
  obtain ⟨v, l, A, c, h⟩ := h
  have hse := sent_eq
  have mixed := mixed
  have HX := Aside0.mk h
  obtain ⟨n, hn⟩ : ∃ n, L.length = n := ⟨_, rfl⟩
  have HN := Aside0.mk hn
  have hn5 : n ≤ 512 := hn ▸ h.cap
  clear h hn
  go_enter Try.func17, Try.ntmps17
  go_wp2_with (fail)
  refine (waits_any w g v l N HX.out.bus HX.out.llen).mono ?_
  rintro e w1 ⟨A1, c1, l1, rfl, hp1, hs1, hw1, ha1, hb1⟩
  obtain rfl := HX.out.pp.waits hp1 hs1
  rw [HN.out]
  have HX1 := Aside0.mk (HX.out.below hb1)
  have HB1 := Aside0.mk hb1
  have HW1 := Aside0.mk hw1
  have HA1 := Aside0.mk ha1
  have z0 : ∀ m, (w1.drewN m).cell? ⟨gm, 0, none⟩ = some (.slice A n c) := fun m => by
    have h1 := HX1.out.ref.cell0
    rw [HN.out] at h1
    exact h1
  have z1 : ∀ m, (w1.drewN m).cell? ⟨gm, 1, none⟩ = some (.int .i64 N) := fun m => HX1.out.ref.cell1
  have hC : ∀ m, Calls Try.prog 12 #[.pointer (some ⟨g, 0, none⟩)] (w1.drewN m) fun e w' => e = .returned (.int .i64 N) ∧ w' = w1.drewN m := fun m =>
    bcount_any (w1.drewN m) g v l N (HX1.out.below (show Below w1.heap.size w1 (w1.drewN m) from ⟨rfl, rfl, rfl, Nat.le_refl _, fun _ _ => rfl⟩)).bus
  clear hp1 hs1 hw1 ha1 hb1
  go_wp2_with (fail)
  go_quiet (refine Calls.quiet_of_same (hC _))
  clear z0 z1 hC
  have HWX := Aside0.mk (HB1.out.trans ((show Below w1.heap.size w1 (w1.drewN nq) from ⟨rfl, rfl, rfl, Nat.le_refl _, fun _ _ => rfl⟩).mono HB1.out.size))
  have HWT := Aside0.mk (show WaitsAt (w1.drewN nq) A1 l1 from HW1.out)
  clear HX1 HB1 HW1
  generalize w1.drewN nq = wx at HWX HWT ⊢
  go_wp2_with (fail)
  go_loopw [6] (fun i wr => ∃ (k : Nat), i = .int .i64 k ∧ k ≤ n ∧ Aside0 (Below w.heap.size w wr) ∧ Aside0 (∀ gb, A1 = some ⟨gb, 0, none⟩ → (∀ i, k ≤ i → i < n → CellsAt wr gb (i * 13) (nth l1 i)) ∧ ∀ j, j < n * 13 → wr.frozen? ⟨gb, j, none⟩ = false)) (fun i _ => n - (intOf i).toNat)
  case atStart =>
    refine ⟨0, rfl, Nat.zero_le _, HWX, ⟨fun gb e => ?_⟩⟩
    by_cases h0 : 0 < l1.length
    · obtain ⟨gb', e', h1, h2⟩ := HWT.out h0
      rw [e] at e'
      simp at e'
      subst e'
      rw [HN.out] at h1 h2
      exact ⟨fun i _ hi => h1 i hi, h2⟩
    · have hn0 : n = 0 := by rw [← HN.out]; omega
      subst hn0
      exact ⟨fun i _ hi => absurd hi (Nat.not_lt_zero _), fun j hj => absurd hj (by omega)⟩
  case round =>
    obtain ⟨k, rfl, hk, HW, HC⟩ := hrel
    by_cases hkn : k < n
    · obtain ⟨gb, hgb⟩ : ∃ gb, A1 = some ⟨gb, 0, none⟩ := by
        obtain ⟨gb, e, _⟩ := HWT.out (by rw [HN.out]; omega)
        exact ⟨gb, e⟩
      subst hgb
      obtain ⟨hcc, hff⟩ := HC.out gb rfl
      obtain ⟨x, hx⟩ : ∃ x, nth l1 k = x := ⟨_, rfl⟩
      have hc := hcc k (Nat.le_refl _) hkn
      rw [hx] at hc
      have hxr := HX.out.below HW.out
      obtain ⟨b, o, hA, hd⟩ := hxr.ref.cells (i := k) (by rw [HN.out]; exact hkn)
      rw [hx] at hd
      subst hA
      have z0 : ∀ m, (wr.drewN m).cell? ⟨gm, 0, none⟩ = some (.slice (some ⟨b, o, none⟩) n c) := fun m => by
        have h1 := hxr.ref.cell0
        rw [HN.out] at h1
        exact h1
      have a0 : ∀ m, (wr.drewN m).cell? ⟨gb, k * 13, none⟩ = some (.int .i64 x.nd) := fun _ => hc.1
      have a1 : ∀ m, (wr.drewN m).cell? ⟨gb, k * 13 + 1, none⟩ = some (.int .u16 x.id) := fun _ => hc.2.1
      have a2 : ∀ m, (wr.drewN m).cell? ⟨gb, k * 13 + 2, none⟩ = some (.int .i64 x.len) := fun _ => hc.2.2.1
      have a3 : ∀ m, (wr.drewN m).cell? ⟨gb, k * 13 + 3, none⟩ = some (.int .u8 x.x0) := fun _ => hc.2.2.2.1
      have a4 : ∀ m, (wr.drewN m).cell? ⟨gb, k * 13 + 4, none⟩ = some (.int .u8 x.x1) := fun _ => hc.2.2.2.2.1
      have a5 : ∀ m, (wr.drewN m).cell? ⟨gb, k * 13 + 5, none⟩ = some (.int .u8 x.x2) := fun _ => hc.2.2.2.2.2.1
      have a6 : ∀ m, (wr.drewN m).cell? ⟨gb, k * 13 + 6, none⟩ = some (.int .u8 x.x3) := fun _ => hc.2.2.2.2.2.2.1
      have a7 : ∀ m, (wr.drewN m).cell? ⟨gb, k * 13 + 7, none⟩ = some (.int .u8 x.x4) := fun _ => hc.2.2.2.2.2.2.2.1
      have a8 : ∀ m, (wr.drewN m).cell? ⟨gb, k * 13 + 8, none⟩ = some (.int .u8 x.x5) := fun _ => hc.2.2.2.2.2.2.2.2.1
      have a9 : ∀ m, (wr.drewN m).cell? ⟨gb, k * 13 + 9, none⟩ = some (.int .u8 x.x6) := fun _ => hc.2.2.2.2.2.2.2.2.2.1
      have a10 : ∀ m, (wr.drewN m).cell? ⟨gb, k * 13 + 10, none⟩ = some (.int .u8 x.x7) := fun _ => hc.2.2.2.2.2.2.2.2.2.2.1
      have a11 : ∀ m, (wr.drewN m).cell? ⟨gb, k * 13 + 11, none⟩ = some (.bool x.rem) := fun _ => hc.2.2.2.2.2.2.2.2.2.2.2.1
      have a12 : ∀ m, (wr.drewN m).cell? ⟨gb, k * 13 + 12, none⟩ = some (.int .i64 x.num) := fun _ => hc.2.2.2.2.2.2.2.2.2.2.2.2
      have b0 : ∀ m, (wr.drewN m).cell? ⟨b, o + k * 13, none⟩ = some (.int .i64 x.nd) := fun _ => hd.1
      have b1 : ∀ m, (wr.drewN m).cell? ⟨b, o + k * 13 + 1, none⟩ = some (.int .u16 x.id) := fun _ => hd.2.1
      have b2 : ∀ m, (wr.drewN m).cell? ⟨b, o + k * 13 + 2, none⟩ = some (.int .i64 x.len) := fun _ => hd.2.2.1
      have b3 : ∀ m, (wr.drewN m).cell? ⟨b, o + k * 13 + 3, none⟩ = some (.int .u8 x.x0) := fun _ => hd.2.2.2.1
      have b4 : ∀ m, (wr.drewN m).cell? ⟨b, o + k * 13 + 4, none⟩ = some (.int .u8 x.x1) := fun _ => hd.2.2.2.2.1
      have b5 : ∀ m, (wr.drewN m).cell? ⟨b, o + k * 13 + 5, none⟩ = some (.int .u8 x.x2) := fun _ => hd.2.2.2.2.2.1
      have b6 : ∀ m, (wr.drewN m).cell? ⟨b, o + k * 13 + 6, none⟩ = some (.int .u8 x.x3) := fun _ => hd.2.2.2.2.2.2.1
      have b7 : ∀ m, (wr.drewN m).cell? ⟨b, o + k * 13 + 7, none⟩ = some (.int .u8 x.x4) := fun _ => hd.2.2.2.2.2.2.2.1
      have b8 : ∀ m, (wr.drewN m).cell? ⟨b, o + k * 13 + 8, none⟩ = some (.int .u8 x.x5) := fun _ => hd.2.2.2.2.2.2.2.2.1
      have b9 : ∀ m, (wr.drewN m).cell? ⟨b, o + k * 13 + 9, none⟩ = some (.int .u8 x.x6) := fun _ => hd.2.2.2.2.2.2.2.2.2.1
      have b10 : ∀ m, (wr.drewN m).cell? ⟨b, o + k * 13 + 10, none⟩ = some (.int .u8 x.x7) := fun _ => hd.2.2.2.2.2.2.2.2.2.2.1
      have b11 : ∀ m, (wr.drewN m).cell? ⟨b, o + k * 13 + 11, none⟩ = some (.bool x.rem) := fun _ => hd.2.2.2.2.2.2.2.2.2.2.2.1
      have b12 : ∀ m, (wr.drewN m).cell? ⟨b, o + k * 13 + 12, none⟩ = some (.int .i64 x.num) := fun _ => hd.2.2.2.2.2.2.2.2.2.2.2.2
      have hse1 := hse x
      have ek : ((k : Int)).toNat = k := by omega
      have bk : (k : Int) < (n : Int) := by omega
      have HCC := Aside0.mk hcc
      have HFF := Aside0.mk hff
      clear hc hd hxr hx hcc hff
      go_wp2_with (fail)
      go_quiet (fail)
      have HTH := Aside0.mk (show (wr.drewN nq).there gb (k * 13) 13 from fun j hj => by
        obtain ⟨q0, q1, q2, q3, q4, q5, q6, q7, q8, q9, q10, q11, q12⟩ := HCC.out k (Nat.le_refl _) hkn
        refine ⟨?_, HFF.out (k * 13 + j) (by omega)⟩
        match j, hj with
        | 0, _ => exact Option.isSome_iff_exists.2 ⟨_, q0⟩
        | 1, _ => exact Option.isSome_iff_exists.2 ⟨_, q1⟩
        | 2, _ => exact Option.isSome_iff_exists.2 ⟨_, q2⟩
        | 3, _ => exact Option.isSome_iff_exists.2 ⟨_, q3⟩
        | 4, _ => exact Option.isSome_iff_exists.2 ⟨_, q4⟩
        | 5, _ => exact Option.isSome_iff_exists.2 ⟨_, q5⟩
        | 6, _ => exact Option.isSome_iff_exists.2 ⟨_, q6⟩
        | 7, _ => exact Option.isSome_iff_exists.2 ⟨_, q7⟩
        | 8, _ => exact Option.isSome_iff_exists.2 ⟨_, q8⟩
        | 9, _ => exact Option.isSome_iff_exists.2 ⟨_, q9⟩
        | 10, _ => exact Option.isSome_iff_exists.2 ⟨_, q10⟩
        | 11, _ => exact Option.isSome_iff_exists.2 ⟨_, q11⟩
        | 12, _ => exact Option.isSome_iff_exists.2 ⟨_, q12⟩)
      have hgw : w.heap.size ≤ gb := HA1.out _ rfl
      have HWN := Aside0.mk (show Below w.heap.size w ((wr.drewN nq).setCells gb (k * 13) [.int .i64 0, .int .u16 0, .int .i64 0, .int .u8 0, .int .u8 0, .int .u8 0, .int .u8 0, .int .u8 0, .int .u8 0, .int .u8 0, .int .u8 0, .bool false, .int .i64 0]) from below_cells hgw _ _ (HW.out.trans ((show Below wr.heap.size wr (wr.drewN nq) from ⟨rfl, rfl, rfl, Nat.le_refl _, fun _ _ => rfl⟩).mono HW.out.size)))
      have HCN := Aside0.mk (show ∀ gb', some (⟨gb, 0, none⟩ : Addr) = some ⟨gb', 0, none⟩ → (∀ i, k + 1 ≤ i → i < n → CellsAt ((wr.drewN nq).setCells gb (k * 13) [.int .i64 0, .int .u16 0, .int .i64 0, .int .u8 0, .int .u8 0, .int .u8 0, .int .u8 0, .int .u8 0, .int .u8 0, .int .u8 0, .int .u8 0, .bool false, .int .i64 0]) gb' (i * 13) (nth l1 i)) ∧ ∀ j, j < n * 13 → ((wr.drewN nq).setCells gb (k * 13) [.int .i64 0, .int .u16 0, .int .i64 0, .int .u8 0, .int .u8 0, .int .u8 0, .int .u8 0, .int .u8 0, .int .u8 0, .int .u8 0, .int .u8 0, .bool false, .int .i64 0]).frozen? ⟨gb', j, none⟩ = false from fun gb' e => by
        obtain rfl : gb = gb' := by
          simp at e
          exact e
        refine ⟨fun i hi hin => ?_, fun j hj => by rw [World.frozen?_setCells]; exact HFF.out j hj⟩
        have hout : ∀ j, i * 13 ≤ j → ((wr.drewN nq).setCells gb (k * 13) [.int .i64 0, .int .u16 0, .int .i64 0, .int .u8 0, .int .u8 0, .int .u8 0, .int .u8 0, .int .u8 0, .int .u8 0, .int .u8 0, .int .u8 0, .bool false, .int .i64 0]).cell? ⟨gb, j, none⟩ = wr.cell? ⟨gb, j, none⟩ := fun j hj => World.cell?_setCells_out gb _ (k * 13) (wr.drewN nq) ⟨gb, j, none⟩ (fun _ _ => .inr (by simp only [List.length_cons, List.length_nil]; omega))
        obtain ⟨q0, q1, q2, q3, q4, q5, q6, q7, q8, q9, q10, q11, q12⟩ := HCC.out i (by omega) hin
        exact ⟨(hout _ (by omega)).trans q0, (hout _ (by omega)).trans q1, (hout _ (by omega)).trans q2, (hout _ (by omega)).trans q3, (hout _ (by omega)).trans q4, (hout _ (by omega)).trans q5, (hout _ (by omega)).trans q6, (hout _ (by omega)).trans q7, (hout _ (by omega)).trans q8, (hout _ (by omega)).trans q9, (hout _ (by omega)).trans q10, (hout _ (by omega)).trans q11, (hout _ (by omega)).trans q12⟩)
      have one := Aside0.mk sn0.cells_one
      clear z0 hse1 a0 a1 a2 a3 a4 a5 a6 a7 a8 a9 a10 a11 a12 b0 b1 b2 b3 b4 b5 b6 b7 b8 b9 b10 b11 b12
      generalize wr.drewN nq = wq at HTH HWN HCN ⊢
      go_wp2_with ((with_reducible refine gate_store rfl ?_); go_loud (refine wpList_store_mid rfl 35 _ _ rfl gb (k * 13) #[.int .i64 0, .int .u16 0, .int .i64 0, .int .u8 0, .int .u8 0, .int .u8 0, .int .u8 0, .int .u8 0, .int .u8 0, .int .u8 0, .int .u8 0, .bool false, .int .i64 0] rfl rfl HTH.out size_sn (all_oneCell_toArray one.out) ?_))
      go_roundw
      case rel => exact ⟨k + 1, by go_num, by omega, HWN, HCN⟩
      case measure => simp [intOf]; omega
    · go_wp2_with (fail)
      go_ret
      exact ⟨rfl, HW.out⟩
end Go.Proofs.Ytnjmohdfnicpdaa.Bus
