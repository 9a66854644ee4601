/- ProduceBeats, walked. slices.Min; a producer's Due. -/
import Derived.Test.YtokebpeplopjhaaDoorY11
import Derived.Deep.RegionHeld3
import Derived.WalkLawsBesides
namespace Go.Proofs.YtokebpeplopjhaaDoor.Mp
open Go.RowKit Go.Shelf Go.Proofs.YtokebpeplopjhaaDoor.Rng Go.Proofs.YtokebpeplopjhaaDoorW.PrintWords Go.Proofs.YtokebpeplopjhaaDoorW.PrintMore Go.Proofs.YtokebpeplopjhaaDoorW.PrintLast

/-- What stays in memory from beat to beat. -/
def BeatAt (B : Nat) (w0 w : World) (g gd bi bs : Nat) (kd st left v told : Int) (first : Bool) : Prop := (∃ s bts a k bg, BInv kd st left told first s bts k bg ∧ P1 B w g gd bi bs v (cB kd st) s bts a k bg) ∧ Fr (fun k => k = g ∨ k = gd ∨ k = bi) w0 w
set_option maxRecDepth 100000 in
set_option maxHeartbeats 16000000 in
theorem beats_any (kd0 st0 : Int) (hi0 : 0 ≤ kd0 ∧ kd0 < 256) (he0 : 0 ≤ st0 ∧ st0 < 256) (l : List Mo) (A : Option Addr) (c : Nat) (w : World) (hl : MosAt w A l) (hw : ∀ m ∈ l, m.Wf) (hlen : l.length ≤ 140737488355328) (ht : Tbl w) :
    Calls Tryd.prog 12 #[.int .u8 kd0, .int .u8 st0, .slice A l.length c] w fun e w' => e = .returned (.bool true) ∧ Below w.heap.size w w' := by
  have HL := Aside0.mk hl
  have HW := Aside0.mk hw
  have HT := Aside0.mk ht
  obtain ⟨n, hn⟩ : ∃ n, l.length = n := ⟨_, rfl⟩
  have HN := Aside0.mk hn
  rw [hn] at hlen ⊢
  obtain ⟨kd, hinh⟩ : ∃ kd, kd0 % 241 = kd := ⟨_, rfl⟩
  obtain ⟨st, hev⟩ : ∃ st, st0 % 10 = st := ⟨_, rfl⟩
  have hi2 : 0 ≤ kd ∧ kd < 241 := by omega
  have he2 : 0 ≤ st ∧ st < 10 := by omega
  have hcm : cmOk (cB kd st) := ⟨(by decide : (385 : Int) ≤ 2047), .inl (by show kd ≤ 240; omega), ⟨(by decide : (0 : Int) ≤ 0), (by decide : (0 : Int) ≤ 1099511627776)⟩, ⟨(by decide : (0 : Int) ≤ 0), (by decide : (0 : Int) ≤ 1099511627776)⟩, (by show st ≤ 240; omega)⟩
  have HCM := Aside0.mk hcm
  have t1 : Int.tmod kd0 241 = kd := by rw [Int.tmod_eq_emod_of_nonneg hi0.1]; exact hinh
  have t2 : Int.tmod st0 10 = st := by rw [Int.tmod_eq_emod_of_nonneg he0.1]; exact hev
  obtain ⟨hi01, hi02⟩ := hi0
  obtain ⟨he01, he02⟩ := he0
  obtain ⟨hi21, hi22⟩ := hi2
  obtain ⟨he21, he22⟩ := he2
  clear hl hw ht hn hcm
  by_cases h60 : 100 < n
  case pos =>
    have d100 : decide ((100 : Int) < (n : Int)) = true := decide_eq_true (by omega)
    go_enter Tryd.func12, Tryd.ntmps12
    go_wp2_with (go_at_call 39; refine (began_any w.heap.size w HT.out (Nat.le_refl _)).mono ?_; rintro e w1 ⟨g, gd, bi, bs, wd, rfl, h1, h2, h3, h4, h5, HB1⟩; replace HB1 := Aside0.mk HB1; clear h1 h2 h3 h4 h5)
    go_quiet (fail)
    rename Nat => nq
    have HB2 := Aside0.mk (show Below w.heap.size w ((w1.alloc (.cells #[.bool true, .int .u16 385, .int .u8 kd, .int .i64 0, .int .i64 0, .int .u8 st] 82)).drewN nq) from below_drewN (HB1.out.trans ((below_alloc (Below.refl _ _) _).mono HB1.out.size)) _)
    go_wp2_with (go_at_call 42; go_loud (refine (works13_any _ (HT.out.below HB2.out)).mono ?_; rintro e w3 ⟨rfl, hb3⟩; have HB3 := Aside0.mk (HB2.out.trans (hb3.mono HB2.out.size)); clear hb3))
    go_ret
    exact ⟨rfl, HB3.out⟩
  case neg =>
    have d100 : decide ((100 : Int) < (n : Int)) = false := decide_eq_false (by omega)
    go_enter Tryd.func12, Tryd.ntmps12
    go_wp2_with (go_at_call 39; refine (began_any w.heap.size w HT.out (Nat.le_refl _)).mono ?_; rintro e w1 ⟨g, gd, bi, bs, wd, rfl, h1, h2, h3, h4, h5, HB1⟩; have H1 := Aside0.mk (And.intro h1 (And.intro h2 (And.intro h3 (And.intro h4 h5)))); replace HB1 := Aside0.mk HB1; have HG := Aside0.mk (show w.heap.size ≤ g by omega); clear h1 h2 h3 h4 h5)
    have hx1 : Below w1.heap.size w1 (w1.alloc (.cells #[.bool true, .int .u16 385, .int .u8 kd, .int .i64 0, .int .i64 0, .int .u8 st] 82)) := below_alloc (Below.refl _ _) _
    have hbk := blk_new w1 (.cells #[.bool true, .int .u16 385, .int .u8 kd, .int .i64 0, .int .i64 0, .int .u8 st] 82)
    have hgl := H1.out.1.lt
    have hne1 : w1.heap.size ≠ g := by omega
    obtain ⟨bx, hbx⟩ : ∃ bx, bx = w1.heap.size := ⟨_, rfl⟩
    rw [← hbx] at hne1
    have HX1 := Aside0.mk hx1
    rw [← hbx] at hbk
    generalize w1.alloc (.cells #[.bool true, .int .u16 385, .int .u8 kd, .int .i64 0, .int .i64 0, .int .u8 st] 82) = w2 at hx1 HX1 hbk ⊢
    rw [← hbx]
    have HBX := Aside0.mk hbk
    have HBXE := Aside0.mk hbx
    have hS0 : Fr (fun k => k = g) w2 w2.drew := Fr.of_below (below_drew (Below.refl _ _))
    have u0 : ∀ X, Fr (fun k => k = g) w2 X → X.cell? ⟨bx, 0, none⟩ = some (.bool true) := fun X hX => hX.cell (Go.Proofs.YtokebpeplopjhaaDoorW.PrintWords.blk_cell hbk 0) hne1
    have u1 : ∀ X, Fr (fun k => k = g) w2 X → X.cell? ⟨bx, 1, none⟩ = some (.int .u16 385) := fun X hX => hX.cell (Go.Proofs.YtokebpeplopjhaaDoorW.PrintWords.blk_cell hbk 1) hne1
    have u2 : ∀ X, Fr (fun k => k = g) w2 X → X.cell? ⟨bx, 2, none⟩ = some (.int .u8 kd) := fun X hX => hX.cell (Go.Proofs.YtokebpeplopjhaaDoorW.PrintWords.blk_cell hbk 2) hne1
    have u3 : ∀ X, Fr (fun k => k = g) w2 X → X.cell? ⟨bx, 3, none⟩ = some (.int .i64 0) := fun X hX => hX.cell (Go.Proofs.YtokebpeplopjhaaDoorW.PrintWords.blk_cell hbk 3) hne1
    have u4 : ∀ X, Fr (fun k => k = g) w2 X → X.cell? ⟨bx, 4, none⟩ = some (.int .i64 0) := fun X hX => hX.cell (Go.Proofs.YtokebpeplopjhaaDoorW.PrintWords.blk_cell hbk 4) hne1
    have u5 : ∀ X, Fr (fun k => k = g) w2 X → X.cell? ⟨bx, 5, none⟩ = some (.int .u8 st) := fun X hX => hX.cell (Go.Proofs.YtokebpeplopjhaaDoorW.PrintWords.blk_cell hbk 5) hne1
    clear hx1 hbk hbx
    go_region_held3 (fun X => Fr (fun k => k = g) w2 X) (first | assumption | exact hS0)
      (first
        | (go_at_call 41; go_loud (refine (lone_any _).mono ?_; rintro e w3 ⟨gl, rfl, hgl3, hm3, hb3⟩; have hs3 : Fr (fun k => k = g) w2 w3 := (Fr.of_below (below_drew (Below.refl _ _))).trans (Fr.of_below hb3); have HB3 := Aside0.mk (show Below w2.heap.size w2 w3 from below_step (below_drew (Below.refl _ _)) hb3); have HM3 := Aside0.mk (And.intro hm3 hgl3); clear hm3 hgl3 hb3))
        | (go_at_call 40; go_loud (refine (set_one (B := w.heap.size) (wd := wd) (bi := bi) (bs := bs) (H1.out.1.below (HX1.out.trans (HB3.out.mono HX1.out.size))) H1.out.2.1 (H1.out.2.2.1.trans ((HX1.out.trans (HB3.out.mono HX1.out.size)).mono H1.out.2.2.1.size)) H1.out.2.2.2.1 (HT.out.below (HB1.out.trans ((HX1.out.trans (HB3.out.mono HX1.out.size)).mono HB1.out.size))) gl HM3.out.1 (by have h1 := HM3.out.2; have h2 := HX1.out.size; simp at h1; omega) (cB kd st) HCM.out rfl).mono ?_; rintro e w4 ⟨rfl, ⟨os, vm, vb, h1, h2, h3⟩, h4, h5⟩; have hs4 : Fr (fun k => k = g) w2 w4 := hs3.trans h5; have H4 := Aside0.mk (And.intro h1 (And.intro h2 (And.intro h3 (And.intro h4 hs4)))); clear h1 h2 h3 h4 h5)))
    go_wp2_with (go_at_call 43; go_loud (refine (start_one (B := w.heap.size) (c := cB kd st) H4.out.1 H4.out.2.1 H4.out.2.2.1 H1.out.2.1 H4.out.2.2.2.1 H1.out.2.2.2.1).mono ?_; rintro e w5 ⟨rfl, h1, h2⟩; have H5 := Aside0.mk (And.intro h1 (H4.out.2.2.2.2.trans h2)); clear h1 h2))
    have hs5 := H5.out.2
    have HY := Aside0.mk (show w5.cell? ⟨bx, 2, none⟩ = some (.int .u8 kd) ∧ w5.cell? ⟨bx, 5, none⟩ = some (.int .u8 st) from And.intro (hs5.cell (Go.Proofs.YtokebpeplopjhaaDoorW.PrintWords.blk_cell HBX.out 2) hne1) (hs5.cell (Go.Proofs.YtokebpeplopjhaaDoorW.PrintWords.blk_cell HBX.out 5) hne1))
    have HB5 := Aside0.mk ((HB1.out.trans (HX1.out.mono HB1.out.size)).trans (frg_bel hs5 (Nat.le_trans HB1.out.size HX1.out.size) HG.out))
    have HNE := Aside0.mk (show ¬ (bx = g ∨ bx = gd ∨ bx = bi) by
      have h1 := H1.out.2.1.lt
      have h2 := H1.out.2.2.1.size
      have h3 := HBXE.out
      omega)
    have HI0 := Aside0.mk fun (nq : Nat) => (show BeatAt w.heap.size w5 (w5.drewN nq) g gd bi bs kd st kd 0 0 true from ⟨⟨false, [], 0, 0, _, binv_0 kd st he21, H5.out.1.below (below_drewN (Below.refl _ _) _)⟩, Fr.of_below (below_drewN (Below.refl _ _) _)⟩)
    have HLB := Aside0.mk fun (X : World) (hX : Below w.heap.size w X) => HL.out.below hX
    have ek : IntKind.i64.wrap kd = kd := by rw [i64_w]; unfold wrap64; omega
    have y2 := HY.out.1
    have y5 := HY.out.2
    clear hs3 hs4 hs5 u0 u1 u2 u3 u4 u5 hS0 H4 HM3 HB3 HX1 HBX HBXE H1 H5 HCM hgl hne1 d100 t1 t2 hinh hev hi01 hi02 he01 he02 hlen
    go_quiet (fail)
    rename Nat => nq
    clear y2 y5
    go_wp2
    go_loopw [10, 11, 12, 13, 14] (fun vv tv fv lv iv wr => ∃ (i : Nat) (left v told : Int) (first : Bool), i ≤ n ∧ iv = .int .i64 i ∧ vv = .int .u8 v ∧ tv = .int .u8 told ∧ fv = .bool first ∧ lv = .int .i64 left ∧ -(i : Int) ≤ left ∧ left ≤ 300 ∧ Aside0 (BeatAt w.heap.size w5 wr g gd bi bs kd st left v told first)) (fun _ _ _ _ iv _ => n - (intOf iv).toNat)
    case atStart => exact ⟨0, kd, 0, 0, true, Nat.zero_le _, rfl, rfl, rfl, rfl, rfl, by omega, by omega, ⟨HI0.out nq⟩⟩
    case round =>
      obtain ⟨i, left, v, told, first, hi, rfl, rfl, rfl, rfl, rfl, hl0, hl1, HI⟩ := hrel
      by_cases hlt : i < n
      · obtain ⟨m, hmk⟩ : ∃ m, l[i]? = some m := ⟨_, List.getElem?_eq_getElem (by rw [HN.out]; exact hlt)⟩
        obtain ⟨hb1, hb2⟩ := HW.out m (List.mem_of_getElem? hmk)
        obtain ⟨⟨s, bts, a, kk, bg, hinv, hp1⟩, hfr⟩ := HI.out
        have hbel := HB5.out.trans ((hp1.bel hfr HB5.out.size).mono (Nat.le_refl _))
        obtain ⟨ad, rfl, m0, m1, m2⟩ := HLB.out wr hbel i m hmk
        obtain ⟨by_, wrb, bb⟩ := m
        simp only at hb1 hb2 m0 m1 m2
        have hi1 : (i : Int) < (n : Int) := by omega
        have HINV := Aside0.mk hinv
        have HP1 := Aside0.mk (And.intro hp1 (And.intro hfr hbel))
        obtain ⟨r9, hr9⟩ : ∃ r9, (i : Int) % 9 = r9 := ⟨_, rfl⟩
        have hr90 : 0 ≤ r9 ∧ r9 < 9 := by omega
        have hrt : Int.tmod (i : Int) 9 = r9 := by rw [Int.tmod_eq_emod_of_nonneg (by omega)]; exact hr9
        have hru : IntKind.u8.wrap (r9 + 1) = r9 + 1 := by
          show (r9 + 1) % 256 = r9 + 1
          omega
        obtain ⟨hr91, hr92⟩ := hr90
        have hi100 : (i : Int) ≤ 100 := by omega
        clear hmk hinv hp1 hfr hbel m0 hb1 HI0 HW HL HLB
        cases wrb with
        | true =>
          obtain ⟨vq, rfl⟩ : ∃ vq, vq = bb := ⟨_, rfl⟩
          rename World => wi
          have HB2 := Aside0.mk hb2
          clear HI
          go_wp2_with (first
            | (go_at_call 44; go_loud (refine (place_any wi).mono ?_; rintro e w6 ⟨rfl, hb6⟩; have HB6 := Aside0.mk hb6; clear hb6))
            | (go_at_call 20; go_loud (refine (write_one ((HP1.out.1.below HB6.out).below (below_alloc (Below.refl _ _) _)) (TblB.below HT.out (HP1.out.2.2.trans ((below_step HB6.out (below_alloc (Below.refl _ _) _)).mono HP1.out.2.2.size))) (some ⟨w6.heap.size, 0, none⟩) 1 vq (argv_lit w6 vq HB2.out)).mono ?_; rintro e w7 ⟨rfl, h1, h2⟩; have HI := Aside0.mk (show BeatAt w.heap.size w5 w7 g gd bi bs kd st left vq told first from ⟨⟨_, _, _, _, _, HINV.out, h1⟩, (HP1.out.2.1.trans ((Fr.of_below HB6.out).trans (Fr.of_below (below_alloc (Below.refl _ _) _)))).trans h2⟩); clear h1 h2)))
          clear HINV HP1 m1 m2
          obtain ⟨⟨s2, bts2, a2, k2, bg2, hinv2, hp2⟩, hfr2⟩ := HI.out
          have hbel2 := HB5.out.trans ((hp2.bel hfr2 HB5.out.size).mono (Nat.le_refl _))
          obtain ⟨hk20, hk21⟩ := hinv2.k0
          have y2 := hfr2.cell HY.out.1 HNE.out
          have y5 := hfr2.cell HY.out.2 HNE.out
          by_cases hn0 : kd = 0
          · subst hn0
            obtain ⟨hA1, hA2⟩ := binv_a (v := vq) (count := r9 + 1) hinv2
            cases first with
            | true =>
              obtain ⟨hbt, hinv3⟩ := hA1 (.inl rfl)
              clear hA1 hA2
              have HTK := Aside0.mk (sync_yes hp2 (TblB.below HT.out hbel2) rfl rfl (show 0 ≤ (cB 0 st).kind ∧ (cB 0 st).kind < 256 from (by constructor <;> omega : (0 : Int) ≤ 0 ∧ (0 : Int) < 256)) ⟨hk20, by omega⟩ (i : Int) ⟨by omega, by omega⟩ (r9 + 1) hbt)
              have HI2 := Aside0.mk (And.intro hfr2 hinv3)
              have HVQ := Aside0.mk hp2.byt
              clear hinv2 hp2 hinv3 hbel2 hfr2 hbt HI
              go_wp2_with (first
                | (go_at_call 47; go_loud (refine HTK.out.mono ?_; rintro e w9 ⟨A9, c9, rfl, hf, h1, h2⟩; have HFR := Aside0.mk hf; have hfr9 := HI2.out.1.trans h2; have HI3 := Aside0.mk (show BeatAt w.heap.size w5 w9 g gd bi bs 0 st 0 vq vq false from ⟨⟨_, _, _, _, _, HI2.out.2, h1⟩, hfr9⟩); have y2 := hfr9.cell HY.out.1 HNE.out; have y5 := hfr9.cell HY.out.2 HNE.out; clear hf h1 h2 hfr9))
                | (go_at_call 46; go_loud (refine (is_one A9 c9 vq HVQ.out _ HFR.out).mono ?_; rintro e w' ⟨rfl, hw⟩; subst hw)))
              go_roundw
              case rel => exact ⟨i + 1, 0, vq, vq, false, by omega, by go_num, rfl, rfl, rfl, rfl, by omega, by omega, HI3⟩
              case measure => simp [intOf]; omega
            | false =>
              by_cases hv : vq = told
              · obtain ⟨hbt, hinv3⟩ := hA2 rfl hv
                have dv : (vq != told) = false := by simpa using hv
                have dv2 : (vq == told) = true := by simpa using hv
                clear hA1 hA2 hv
                have HTK := Aside0.mk (sync_no hp2 (TblB.below HT.out hbel2) rfl rfl (show 0 ≤ (cB 0 st).kind ∧ (cB 0 st).kind < 256 from (by constructor <;> omega : (0 : Int) ≤ 0 ∧ (0 : Int) < 256)) ⟨hk20, by omega⟩ (i : Int) ⟨by omega, by omega⟩ (r9 + 1) hbt)
                have HI2 := Aside0.mk (And.intro hfr2 hinv3)
                clear hinv2 hp2 hinv3 hbel2 hfr2 hbt HI
                go_wp2_with (go_at_call 47; go_loud (refine HTK.out.mono ?_; rintro e w9 ⟨A9, c9, rfl, h1, h2⟩; have hfr9 := HI2.out.1.trans h2; have HI3 := Aside0.mk (show BeatAt w.heap.size w5 w9 g gd bi bs 0 st (left - 1) vq told false from ⟨⟨_, _, _, _, _, HI2.out.2, h1⟩, hfr9⟩); have y2 := hfr9.cell HY.out.1 HNE.out; have y5 := hfr9.cell HY.out.2 HNE.out; clear h1 h2 hfr9))
                go_roundw
                case rel => exact ⟨i + 1, left - 1, vq, told, false, by omega, by go_num, rfl, rfl, rfl, by go_num, by omega, by omega, HI3⟩
                case measure => simp [intOf]; omega
              · obtain ⟨hbt, hinv3⟩ := hA1 (.inr hv)
                have dv : (vq != told) = true := by simpa using hv
                have dv2 : (vq == told) = false := by simpa using hv
                clear hA1 hA2
                have HTK := Aside0.mk (sync_yes hp2 (TblB.below HT.out hbel2) rfl rfl (show 0 ≤ (cB 0 st).kind ∧ (cB 0 st).kind < 256 from (by constructor <;> omega : (0 : Int) ≤ 0 ∧ (0 : Int) < 256)) ⟨hk20, by omega⟩ (i : Int) ⟨by omega, by omega⟩ (r9 + 1) hbt)
                have HI2 := Aside0.mk (And.intro hfr2 hinv3)
                have HVQ := Aside0.mk hp2.byt
                clear hinv2 hp2 hinv3 hbel2 hfr2 hbt HI
                go_wp2_with (first
                  | (go_at_call 47; go_loud (refine HTK.out.mono ?_; rintro e w9 ⟨A9, c9, rfl, hf, h1, h2⟩; have HFR := Aside0.mk hf; have hfr9 := HI2.out.1.trans h2; have HI3 := Aside0.mk (show BeatAt w.heap.size w5 w9 g gd bi bs 0 st 0 vq vq false from ⟨⟨_, _, _, _, _, HI2.out.2, h1⟩, hfr9⟩); have y2 := hfr9.cell HY.out.1 HNE.out; have y5 := hfr9.cell HY.out.2 HNE.out; clear hf h1 h2 hfr9))
                  | (go_at_call 46; go_loud (refine (is_one A9 c9 vq HVQ.out _ HFR.out).mono ?_; rintro e w' ⟨rfl, hw⟩; subst hw)))
                go_roundw
                case rel => exact ⟨i + 1, 0, vq, vq, false, by omega, by go_num, rfl, rfl, rfl, rfl, by omega, by omega, HI3⟩
                case measure => simp [intOf]; omega
          · have dn : (kd == 0) = false := by simpa using hn0
            have hkp : 0 < kd ∧ kd < 241 := by omega
            cases bg2 with
            | false =>
              obtain ⟨hfi, hst, hB1, hB2⟩ := binv_b (v := vq) (count := r9 + 1) hkp (by omega) hinv2 rfl
              subst hfi
              by_cases hc : r9 + 1 = st
              · obtain ⟨hbt, hinv3⟩ := hB1 hc
                have dc : (r9 + 1 == st) = true := by simpa using hc
                clear hB1 hB2 hc
                have HTK := Aside0.mk (sync_yes hp2 (TblB.below HT.out hbel2) rfl rfl (show 0 ≤ (cB kd st).kind ∧ (cB kd st).kind < 256 from (by constructor <;> omega : (0 : Int) ≤ kd ∧ (kd : Int) < 256)) ⟨hk20, by omega⟩ (i : Int) ⟨by omega, by omega⟩ (r9 + 1) hbt)
                have HI2 := Aside0.mk (And.intro hfr2 hinv3)
                have HVQ := Aside0.mk hp2.byt
                clear hinv2 hp2 hinv3 hbel2 hfr2 hbt HI
                go_wp2_with (first
                  | (go_at_call 47; go_loud (refine HTK.out.mono ?_; rintro e w9 ⟨A9, c9, rfl, hf, h1, h2⟩; have HFR := Aside0.mk hf; have hfr9 := HI2.out.1.trans h2; have HI3 := Aside0.mk (show BeatAt w.heap.size w5 w9 g gd bi bs kd st kd vq vq false from ⟨⟨_, _, _, _, _, HI2.out.2, h1⟩, hfr9⟩); have y2 := hfr9.cell HY.out.1 HNE.out; have y5 := hfr9.cell HY.out.2 HNE.out; clear hf h1 h2 hfr9))
                  | (go_at_call 46; go_loud (refine (is_one A9 c9 vq HVQ.out _ HFR.out).mono ?_; rintro e w' ⟨rfl, hw⟩; subst hw)))
                go_roundw
                case rel => exact ⟨i + 1, kd, vq, vq, false, by omega, by go_num, rfl, rfl, rfl, rfl, by omega, by omega, HI3⟩
                case measure => simp [intOf]; omega
              · obtain ⟨hbt, hinv3⟩ := hB2 hc
                have dc : (r9 + 1 == st) = false := by simpa using hc
                clear hB1 hB2 hc
                have HTK := Aside0.mk (sync_no hp2 (TblB.below HT.out hbel2) rfl rfl (show 0 ≤ (cB kd st).kind ∧ (cB kd st).kind < 256 from (by constructor <;> omega : (0 : Int) ≤ kd ∧ (kd : Int) < 256)) ⟨hk20, by omega⟩ (i : Int) ⟨by omega, by omega⟩ (r9 + 1) hbt)
                have HI2 := Aside0.mk (And.intro hfr2 hinv3)
                clear hinv2 hp2 hinv3 hbel2 hfr2 hbt HI
                go_wp2_with (go_at_call 47; go_loud (refine HTK.out.mono ?_; rintro e w9 ⟨A9, c9, rfl, h1, h2⟩; have hfr9 := HI2.out.1.trans h2; have HI3 := Aside0.mk (show BeatAt w.heap.size w5 w9 g gd bi bs kd st (kd) vq told true from ⟨⟨_, _, _, _, _, HI2.out.2, h1⟩, hfr9⟩); have y2 := hfr9.cell HY.out.1 HNE.out; have y5 := hfr9.cell HY.out.2 HNE.out; clear h1 h2 hfr9))
                go_roundw
                case rel => exact ⟨i + 1, kd, vq, told, true, by omega, by go_num, rfl, rfl, rfl, by go_num, by omega, by omega, HI3⟩
                case measure => simp [intOf]; omega
            | true =>
              obtain ⟨hst0, hC1, hC2⟩ := binv_c (v := vq) (count := r9 + 1) hkp hinv2 rfl
              by_cases hl : left = 1
              · obtain ⟨hbt, hinv3⟩ := hC1 hl
                have dl : (left == 1) = true := by simpa using hl
                clear hC1 hC2 hl
                cases first with
                | true =>
                  have ds : decide (0 < st) = false := decide_eq_false (by have := hst0 rfl; omega)
                  clear hst0
                  have HTK := Aside0.mk (sync_yes hp2 (TblB.below HT.out hbel2) rfl rfl (show 0 ≤ (cB kd st).kind ∧ (cB kd st).kind < 256 from (by constructor <;> omega : (0 : Int) ≤ kd ∧ (kd : Int) < 256)) ⟨hk20, by omega⟩ (i : Int) ⟨by omega, by omega⟩ (r9 + 1) hbt)
                  have HI2 := Aside0.mk (And.intro hfr2 hinv3)
                  have HVQ := Aside0.mk hp2.byt
                  clear hinv2 hp2 hinv3 hbel2 hfr2 hbt HI
                  go_wp2_with (first
                    | (go_at_call 47; go_loud (refine HTK.out.mono ?_; rintro e w9 ⟨A9, c9, rfl, hf, h1, h2⟩; have HFR := Aside0.mk hf; have hfr9 := HI2.out.1.trans h2; have HI3 := Aside0.mk (show BeatAt w.heap.size w5 w9 g gd bi bs kd st kd vq vq false from ⟨⟨_, _, _, _, _, HI2.out.2, h1⟩, hfr9⟩); have y2 := hfr9.cell HY.out.1 HNE.out; have y5 := hfr9.cell HY.out.2 HNE.out; clear hf h1 h2 hfr9))
                    | (go_at_call 46; go_loud (refine (is_one A9 c9 vq HVQ.out _ HFR.out).mono ?_; rintro e w' ⟨rfl, hw⟩; subst hw)))
                  go_roundw
                  case rel => exact ⟨i + 1, kd, vq, vq, false, by omega, by go_num, rfl, rfl, rfl, rfl, by omega, by omega, HI3⟩
                  case measure => simp [intOf]; omega
                | false =>
                  clear hst0
                  have HTK := Aside0.mk (sync_yes hp2 (TblB.below HT.out hbel2) rfl rfl (show 0 ≤ (cB kd st).kind ∧ (cB kd st).kind < 256 from (by constructor <;> omega : (0 : Int) ≤ kd ∧ (kd : Int) < 256)) ⟨hk20, by omega⟩ (i : Int) ⟨by omega, by omega⟩ (r9 + 1) hbt)
                  have HI2 := Aside0.mk (And.intro hfr2 hinv3)
                  have HVQ := Aside0.mk hp2.byt
                  clear hinv2 hp2 hinv3 hbel2 hfr2 hbt HI
                  go_wp2_with (first
                    | (go_at_call 47; go_loud (refine HTK.out.mono ?_; rintro e w9 ⟨A9, c9, rfl, hf, h1, h2⟩; have HFR := Aside0.mk hf; have hfr9 := HI2.out.1.trans h2; have HI3 := Aside0.mk (show BeatAt w.heap.size w5 w9 g gd bi bs kd st kd vq vq false from ⟨⟨_, _, _, _, _, HI2.out.2, h1⟩, hfr9⟩); have y2 := hfr9.cell HY.out.1 HNE.out; have y5 := hfr9.cell HY.out.2 HNE.out; clear hf h1 h2 hfr9))
                    | (go_at_call 46; go_loud (refine (is_one A9 c9 vq HVQ.out _ HFR.out).mono ?_; rintro e w' ⟨rfl, hw⟩; subst hw)))
                  go_roundw
                  case rel => exact ⟨i + 1, kd, vq, vq, false, by omega, by go_num, rfl, rfl, rfl, rfl, by omega, by omega, HI3⟩
                  case measure => simp [intOf]; omega
              · obtain ⟨hbt, hinv3⟩ := hC2 hl
                have dl : (left == 1) = false := by simpa using hl
                clear hC1 hC2 hl
                cases first with
                | true =>
                  have ds : decide (0 < st) = false := decide_eq_false (by have := hst0 rfl; omega)
                  clear hst0
                  have HTK := Aside0.mk (sync_no hp2 (TblB.below HT.out hbel2) rfl rfl (show 0 ≤ (cB kd st).kind ∧ (cB kd st).kind < 256 from (by constructor <;> omega : (0 : Int) ≤ kd ∧ (kd : Int) < 256)) ⟨hk20, by omega⟩ (i : Int) ⟨by omega, by omega⟩ (r9 + 1) hbt)
                  have HI2 := Aside0.mk (And.intro hfr2 hinv3)
                  clear hinv2 hp2 hinv3 hbel2 hfr2 hbt HI
                  go_wp2_with (go_at_call 47; go_loud (refine HTK.out.mono ?_; rintro e w9 ⟨A9, c9, rfl, h1, h2⟩; have hfr9 := HI2.out.1.trans h2; have HI3 := Aside0.mk (show BeatAt w.heap.size w5 w9 g gd bi bs kd st (left - 1) vq told true from ⟨⟨_, _, _, _, _, HI2.out.2, h1⟩, hfr9⟩); have y2 := hfr9.cell HY.out.1 HNE.out; have y5 := hfr9.cell HY.out.2 HNE.out; clear h1 h2 hfr9))
                  go_roundw
                  case rel => exact ⟨i + 1, left - 1, vq, told, true, by omega, by go_num, rfl, rfl, rfl, by go_num, by omega, by omega, HI3⟩
                  case measure => simp [intOf]; omega
                | false =>
                  clear hst0
                  have HTK := Aside0.mk (sync_no hp2 (TblB.below HT.out hbel2) rfl rfl (show 0 ≤ (cB kd st).kind ∧ (cB kd st).kind < 256 from (by constructor <;> omega : (0 : Int) ≤ kd ∧ (kd : Int) < 256)) ⟨hk20, by omega⟩ (i : Int) ⟨by omega, by omega⟩ (r9 + 1) hbt)
                  have HI2 := Aside0.mk (And.intro hfr2 hinv3)
                  clear hinv2 hp2 hinv3 hbel2 hfr2 hbt HI
                  go_wp2_with (go_at_call 47; go_loud (refine HTK.out.mono ?_; rintro e w9 ⟨A9, c9, rfl, h1, h2⟩; have hfr9 := HI2.out.1.trans h2; have HI3 := Aside0.mk (show BeatAt w.heap.size w5 w9 g gd bi bs kd st (left - 1) vq told false from ⟨⟨_, _, _, _, _, HI2.out.2, h1⟩, hfr9⟩); have y2 := hfr9.cell HY.out.1 HNE.out; have y5 := hfr9.cell HY.out.2 HNE.out; clear h1 h2 hfr9))
                  go_roundw
                  case rel => exact ⟨i + 1, left - 1, vq, told, false, by omega, by go_num, rfl, rfl, rfl, by go_num, by omega, by omega, HI3⟩
                  case measure => simp [intOf]; omega
        | false =>
          obtain ⟨vq, rfl⟩ : ∃ vq, vq = v := ⟨_, rfl⟩
          rename World => wi
          go_wp2_with (fail)
          clear HINV HP1 m1 m2
          obtain ⟨⟨s2, bts2, a2, k2, bg2, hinv2, hp2⟩, hfr2⟩ := HI.out
          have hbel2 := HB5.out.trans ((hp2.bel hfr2 HB5.out.size).mono (Nat.le_refl _))
          obtain ⟨hk20, hk21⟩ := hinv2.k0
          have y2 := hfr2.cell HY.out.1 HNE.out
          have y5 := hfr2.cell HY.out.2 HNE.out
          by_cases hn0 : kd = 0
          · subst hn0
            obtain ⟨hA1, hA2⟩ := binv_a (v := vq) (count := r9 + 1) hinv2
            cases first with
            | true =>
              obtain ⟨hbt, hinv3⟩ := hA1 (.inl rfl)
              clear hA1 hA2
              have HTK := Aside0.mk (sync_yes hp2 (TblB.below HT.out hbel2) rfl rfl (show 0 ≤ (cB 0 st).kind ∧ (cB 0 st).kind < 256 from (by constructor <;> omega : (0 : Int) ≤ 0 ∧ (0 : Int) < 256)) ⟨hk20, by omega⟩ (i : Int) ⟨by omega, by omega⟩ (r9 + 1) hbt)
              have HI2 := Aside0.mk (And.intro hfr2 hinv3)
              have HVQ := Aside0.mk hp2.byt
              clear hinv2 hp2 hinv3 hbel2 hfr2 hbt HI
              go_wp2_with (first
                | (go_at_call 47; go_loud (refine HTK.out.mono ?_; rintro e w9 ⟨A9, c9, rfl, hf, h1, h2⟩; have HFR := Aside0.mk hf; have hfr9 := HI2.out.1.trans h2; have HI3 := Aside0.mk (show BeatAt w.heap.size w5 w9 g gd bi bs 0 st 0 vq vq false from ⟨⟨_, _, _, _, _, HI2.out.2, h1⟩, hfr9⟩); have y2 := hfr9.cell HY.out.1 HNE.out; have y5 := hfr9.cell HY.out.2 HNE.out; clear hf h1 h2 hfr9))
                | (go_at_call 46; go_loud (refine (is_one A9 c9 vq HVQ.out _ HFR.out).mono ?_; rintro e w' ⟨rfl, hw⟩; subst hw)))
              go_roundw
              case rel => exact ⟨i + 1, 0, vq, vq, false, by omega, by go_num, rfl, rfl, rfl, rfl, by omega, by omega, HI3⟩
              case measure => simp [intOf]; omega
            | false =>
              by_cases hv : vq = told
              · obtain ⟨hbt, hinv3⟩ := hA2 rfl hv
                have dv : (vq != told) = false := by simpa using hv
                have dv2 : (vq == told) = true := by simpa using hv
                clear hA1 hA2 hv
                have HTK := Aside0.mk (sync_no hp2 (TblB.below HT.out hbel2) rfl rfl (show 0 ≤ (cB 0 st).kind ∧ (cB 0 st).kind < 256 from (by constructor <;> omega : (0 : Int) ≤ 0 ∧ (0 : Int) < 256)) ⟨hk20, by omega⟩ (i : Int) ⟨by omega, by omega⟩ (r9 + 1) hbt)
                have HI2 := Aside0.mk (And.intro hfr2 hinv3)
                clear hinv2 hp2 hinv3 hbel2 hfr2 hbt HI
                go_wp2_with (go_at_call 47; go_loud (refine HTK.out.mono ?_; rintro e w9 ⟨A9, c9, rfl, h1, h2⟩; have hfr9 := HI2.out.1.trans h2; have HI3 := Aside0.mk (show BeatAt w.heap.size w5 w9 g gd bi bs 0 st (left - 1) vq told false from ⟨⟨_, _, _, _, _, HI2.out.2, h1⟩, hfr9⟩); have y2 := hfr9.cell HY.out.1 HNE.out; have y5 := hfr9.cell HY.out.2 HNE.out; clear h1 h2 hfr9))
                go_roundw
                case rel => exact ⟨i + 1, left - 1, vq, told, false, by omega, by go_num, rfl, rfl, rfl, by go_num, by omega, by omega, HI3⟩
                case measure => simp [intOf]; omega
              · obtain ⟨hbt, hinv3⟩ := hA1 (.inr hv)
                have dv : (vq != told) = true := by simpa using hv
                have dv2 : (vq == told) = false := by simpa using hv
                clear hA1 hA2
                have HTK := Aside0.mk (sync_yes hp2 (TblB.below HT.out hbel2) rfl rfl (show 0 ≤ (cB 0 st).kind ∧ (cB 0 st).kind < 256 from (by constructor <;> omega : (0 : Int) ≤ 0 ∧ (0 : Int) < 256)) ⟨hk20, by omega⟩ (i : Int) ⟨by omega, by omega⟩ (r9 + 1) hbt)
                have HI2 := Aside0.mk (And.intro hfr2 hinv3)
                have HVQ := Aside0.mk hp2.byt
                clear hinv2 hp2 hinv3 hbel2 hfr2 hbt HI
                go_wp2_with (first
                  | (go_at_call 47; go_loud (refine HTK.out.mono ?_; rintro e w9 ⟨A9, c9, rfl, hf, h1, h2⟩; have HFR := Aside0.mk hf; have hfr9 := HI2.out.1.trans h2; have HI3 := Aside0.mk (show BeatAt w.heap.size w5 w9 g gd bi bs 0 st 0 vq vq false from ⟨⟨_, _, _, _, _, HI2.out.2, h1⟩, hfr9⟩); have y2 := hfr9.cell HY.out.1 HNE.out; have y5 := hfr9.cell HY.out.2 HNE.out; clear hf h1 h2 hfr9))
                  | (go_at_call 46; go_loud (refine (is_one A9 c9 vq HVQ.out _ HFR.out).mono ?_; rintro e w' ⟨rfl, hw⟩; subst hw)))
                go_roundw
                case rel => exact ⟨i + 1, 0, vq, vq, false, by omega, by go_num, rfl, rfl, rfl, rfl, by omega, by omega, HI3⟩
                case measure => simp [intOf]; omega
          · have dn : (kd == 0) = false := by simpa using hn0
            have hkp : 0 < kd ∧ kd < 241 := by omega
            cases bg2 with
            | false =>
              obtain ⟨hfi, hst, hB1, hB2⟩ := binv_b (v := vq) (count := r9 + 1) hkp (by omega) hinv2 rfl
              subst hfi
              by_cases hc : r9 + 1 = st
              · obtain ⟨hbt, hinv3⟩ := hB1 hc
                have dc : (r9 + 1 == st) = true := by simpa using hc
                clear hB1 hB2 hc
                have HTK := Aside0.mk (sync_yes hp2 (TblB.below HT.out hbel2) rfl rfl (show 0 ≤ (cB kd st).kind ∧ (cB kd st).kind < 256 from (by constructor <;> omega : (0 : Int) ≤ kd ∧ (kd : Int) < 256)) ⟨hk20, by omega⟩ (i : Int) ⟨by omega, by omega⟩ (r9 + 1) hbt)
                have HI2 := Aside0.mk (And.intro hfr2 hinv3)
                have HVQ := Aside0.mk hp2.byt
                clear hinv2 hp2 hinv3 hbel2 hfr2 hbt HI
                go_wp2_with (first
                  | (go_at_call 47; go_loud (refine HTK.out.mono ?_; rintro e w9 ⟨A9, c9, rfl, hf, h1, h2⟩; have HFR := Aside0.mk hf; have hfr9 := HI2.out.1.trans h2; have HI3 := Aside0.mk (show BeatAt w.heap.size w5 w9 g gd bi bs kd st kd vq vq false from ⟨⟨_, _, _, _, _, HI2.out.2, h1⟩, hfr9⟩); have y2 := hfr9.cell HY.out.1 HNE.out; have y5 := hfr9.cell HY.out.2 HNE.out; clear hf h1 h2 hfr9))
                  | (go_at_call 46; go_loud (refine (is_one A9 c9 vq HVQ.out _ HFR.out).mono ?_; rintro e w' ⟨rfl, hw⟩; subst hw)))
                go_roundw
                case rel => exact ⟨i + 1, kd, vq, vq, false, by omega, by go_num, rfl, rfl, rfl, rfl, by omega, by omega, HI3⟩
                case measure => simp [intOf]; omega
              · obtain ⟨hbt, hinv3⟩ := hB2 hc
                have dc : (r9 + 1 == st) = false := by simpa using hc
                clear hB1 hB2 hc
                have HTK := Aside0.mk (sync_no hp2 (TblB.below HT.out hbel2) rfl rfl (show 0 ≤ (cB kd st).kind ∧ (cB kd st).kind < 256 from (by constructor <;> omega : (0 : Int) ≤ kd ∧ (kd : Int) < 256)) ⟨hk20, by omega⟩ (i : Int) ⟨by omega, by omega⟩ (r9 + 1) hbt)
                have HI2 := Aside0.mk (And.intro hfr2 hinv3)
                clear hinv2 hp2 hinv3 hbel2 hfr2 hbt HI
                go_wp2_with (go_at_call 47; go_loud (refine HTK.out.mono ?_; rintro e w9 ⟨A9, c9, rfl, h1, h2⟩; have hfr9 := HI2.out.1.trans h2; have HI3 := Aside0.mk (show BeatAt w.heap.size w5 w9 g gd bi bs kd st (kd) vq told true from ⟨⟨_, _, _, _, _, HI2.out.2, h1⟩, hfr9⟩); have y2 := hfr9.cell HY.out.1 HNE.out; have y5 := hfr9.cell HY.out.2 HNE.out; clear h1 h2 hfr9))
                go_roundw
                case rel => exact ⟨i + 1, kd, vq, told, true, by omega, by go_num, rfl, rfl, rfl, by go_num, by omega, by omega, HI3⟩
                case measure => simp [intOf]; omega
            | true =>
              obtain ⟨hst0, hC1, hC2⟩ := binv_c (v := vq) (count := r9 + 1) hkp hinv2 rfl
              by_cases hl : left = 1
              · obtain ⟨hbt, hinv3⟩ := hC1 hl
                have dl : (left == 1) = true := by simpa using hl
                clear hC1 hC2 hl
                cases first with
                | true =>
                  have ds : decide (0 < st) = false := decide_eq_false (by have := hst0 rfl; omega)
                  clear hst0
                  have HTK := Aside0.mk (sync_yes hp2 (TblB.below HT.out hbel2) rfl rfl (show 0 ≤ (cB kd st).kind ∧ (cB kd st).kind < 256 from (by constructor <;> omega : (0 : Int) ≤ kd ∧ (kd : Int) < 256)) ⟨hk20, by omega⟩ (i : Int) ⟨by omega, by omega⟩ (r9 + 1) hbt)
                  have HI2 := Aside0.mk (And.intro hfr2 hinv3)
                  have HVQ := Aside0.mk hp2.byt
                  clear hinv2 hp2 hinv3 hbel2 hfr2 hbt HI
                  go_wp2_with (first
                    | (go_at_call 47; go_loud (refine HTK.out.mono ?_; rintro e w9 ⟨A9, c9, rfl, hf, h1, h2⟩; have HFR := Aside0.mk hf; have hfr9 := HI2.out.1.trans h2; have HI3 := Aside0.mk (show BeatAt w.heap.size w5 w9 g gd bi bs kd st kd vq vq false from ⟨⟨_, _, _, _, _, HI2.out.2, h1⟩, hfr9⟩); have y2 := hfr9.cell HY.out.1 HNE.out; have y5 := hfr9.cell HY.out.2 HNE.out; clear hf h1 h2 hfr9))
                    | (go_at_call 46; go_loud (refine (is_one A9 c9 vq HVQ.out _ HFR.out).mono ?_; rintro e w' ⟨rfl, hw⟩; subst hw)))
                  go_roundw
                  case rel => exact ⟨i + 1, kd, vq, vq, false, by omega, by go_num, rfl, rfl, rfl, rfl, by omega, by omega, HI3⟩
                  case measure => simp [intOf]; omega
                | false =>
                  clear hst0
                  have HTK := Aside0.mk (sync_yes hp2 (TblB.below HT.out hbel2) rfl rfl (show 0 ≤ (cB kd st).kind ∧ (cB kd st).kind < 256 from (by constructor <;> omega : (0 : Int) ≤ kd ∧ (kd : Int) < 256)) ⟨hk20, by omega⟩ (i : Int) ⟨by omega, by omega⟩ (r9 + 1) hbt)
                  have HI2 := Aside0.mk (And.intro hfr2 hinv3)
                  have HVQ := Aside0.mk hp2.byt
                  clear hinv2 hp2 hinv3 hbel2 hfr2 hbt HI
                  go_wp2_with (first
                    | (go_at_call 47; go_loud (refine HTK.out.mono ?_; rintro e w9 ⟨A9, c9, rfl, hf, h1, h2⟩; have HFR := Aside0.mk hf; have hfr9 := HI2.out.1.trans h2; have HI3 := Aside0.mk (show BeatAt w.heap.size w5 w9 g gd bi bs kd st kd vq vq false from ⟨⟨_, _, _, _, _, HI2.out.2, h1⟩, hfr9⟩); have y2 := hfr9.cell HY.out.1 HNE.out; have y5 := hfr9.cell HY.out.2 HNE.out; clear hf h1 h2 hfr9))
                    | (go_at_call 46; go_loud (refine (is_one A9 c9 vq HVQ.out _ HFR.out).mono ?_; rintro e w' ⟨rfl, hw⟩; subst hw)))
                  go_roundw
                  case rel => exact ⟨i + 1, kd, vq, vq, false, by omega, by go_num, rfl, rfl, rfl, rfl, by omega, by omega, HI3⟩
                  case measure => simp [intOf]; omega
              · obtain ⟨hbt, hinv3⟩ := hC2 hl
                have dl : (left == 1) = false := by simpa using hl
                clear hC1 hC2 hl
                cases first with
                | true =>
                  have ds : decide (0 < st) = false := decide_eq_false (by have := hst0 rfl; omega)
                  clear hst0
                  have HTK := Aside0.mk (sync_no hp2 (TblB.below HT.out hbel2) rfl rfl (show 0 ≤ (cB kd st).kind ∧ (cB kd st).kind < 256 from (by constructor <;> omega : (0 : Int) ≤ kd ∧ (kd : Int) < 256)) ⟨hk20, by omega⟩ (i : Int) ⟨by omega, by omega⟩ (r9 + 1) hbt)
                  have HI2 := Aside0.mk (And.intro hfr2 hinv3)
                  clear hinv2 hp2 hinv3 hbel2 hfr2 hbt HI
                  go_wp2_with (go_at_call 47; go_loud (refine HTK.out.mono ?_; rintro e w9 ⟨A9, c9, rfl, h1, h2⟩; have hfr9 := HI2.out.1.trans h2; have HI3 := Aside0.mk (show BeatAt w.heap.size w5 w9 g gd bi bs kd st (left - 1) vq told true from ⟨⟨_, _, _, _, _, HI2.out.2, h1⟩, hfr9⟩); have y2 := hfr9.cell HY.out.1 HNE.out; have y5 := hfr9.cell HY.out.2 HNE.out; clear h1 h2 hfr9))
                  go_roundw
                  case rel => exact ⟨i + 1, left - 1, vq, told, true, by omega, by go_num, rfl, rfl, rfl, by go_num, by omega, by omega, HI3⟩
                  case measure => simp [intOf]; omega
                | false =>
                  clear hst0
                  have HTK := Aside0.mk (sync_no hp2 (TblB.below HT.out hbel2) rfl rfl (show 0 ≤ (cB kd st).kind ∧ (cB kd st).kind < 256 from (by constructor <;> omega : (0 : Int) ≤ kd ∧ (kd : Int) < 256)) ⟨hk20, by omega⟩ (i : Int) ⟨by omega, by omega⟩ (r9 + 1) hbt)
                  have HI2 := Aside0.mk (And.intro hfr2 hinv3)
                  clear hinv2 hp2 hinv3 hbel2 hfr2 hbt HI
                  go_wp2_with (go_at_call 47; go_loud (refine HTK.out.mono ?_; rintro e w9 ⟨A9, c9, rfl, h1, h2⟩; have hfr9 := HI2.out.1.trans h2; have HI3 := Aside0.mk (show BeatAt w.heap.size w5 w9 g gd bi bs kd st (left - 1) vq told false from ⟨⟨_, _, _, _, _, HI2.out.2, h1⟩, hfr9⟩); have y2 := hfr9.cell HY.out.1 HNE.out; have y5 := hfr9.cell HY.out.2 HNE.out; clear h1 h2 hfr9))
                  go_roundw
                  case rel => exact ⟨i + 1, left - 1, vq, told, false, by omega, by go_num, rfl, rfl, rfl, by go_num, by omega, by omega, HI3⟩
                  case measure => simp [intOf]; omega
      · obtain rfl : i = n := by omega
        obtain ⟨⟨s, bts, a, kk, bg, hinv, hp1⟩, hfr⟩ := HI.out
        have HBE := Aside0.mk (HB5.out.trans ((hp1.bel hfr HB5.out.size).mono (Nat.le_refl _)))
        clear hinv hp1 hfr
        go_wp2_with (go_at_call 42; go_loud (refine (works13_any _ (HT.out.below HBE.out)).mono ?_; rintro e w7 ⟨rfl, hb7⟩; have HB7 := Aside0.mk (HBE.out.trans (hb7.mono HBE.out.size)); clear hb7))
        go_ret
        exact ⟨rfl, HB7.out⟩
end Go.Proofs.YtokebpeplopjhaaDoor.Mp
set_option linter.unusedSimpArgs false
set_option linter.unusedVariables false
namespace Go.Proofs.YtokebpeplopjhaaDoor.Mp
open Go.RowKit Go.Shelf Go.Proofs.YtokebpeplopjhaaDoor.Rng Go.Proofs.YtokebpeplopjhaaDoorW.PrintWords Go.Proofs.YtokebpeplopjhaaDoorW.PrintMore Go.Proofs.YtokebpeplopjhaaDoorW.PrintLast

abbrev kN : Kd Int := Kd.int .i64
theorem info_i64 : (Tryd.prog.info? 2).map (fun i => (i.zero, i.size, i.bytes)) = some (some (.int .i64 0), 1, 8) := by kernel_rfl
def minL : List Int → Int
  | [] => 0
  | x :: r => r.foldl min x
theorem minL_snoc (l : List Int) (y : Int) (h : l ≠ []) : minL (l ++ [y]) = min (minL l) y := by
  cases l with
  | nil => exact absurd rfl h
  | cons x r => simp [minL, List.foldl_append]
/-- When an object would be sent. -/
def dueC (o : Option DD) (x : Ob) : Option Int :=
  if x.cm.timed = false then none else if x.sent = false then some x.at_ else if (chgC o x || x.wanted) = true then some (wrap64 (x.at_ + x.cm.inh))
  else if 0 < x.cm.ev then some (wrap64 (x.at_ + max x.cm.inh x.cm.ev)) else none
def dueL (o : Option DD) (os : Nat → Ob) : Nat → List Int
  | 0 => []
  | i + 1 => dueL o os i ++ (dueC o (os i)).toList
def dueR (l : List Int) : Int × Bool := if l = [] then (0, false) else (minL l, true)
set_option maxRecDepth 100000 in
set_option maxHeartbeats 2000000 in
theorem smin_any (A : Option Addr) (n c : Nat) (l : List Int) (w : World) (h : kN.C w A n l) (hn : l.length = n) (h0 : 0 < n) (hl : n ≤ 1000) :
    Calls Tryd.prog 106 #[.slice A n c] w fun e w' => e = .returned (.int .i64 (minL l)) ∧ w = w' := by
  obtain ⟨_, h1, h2⟩ := Kd.reads_of_C (enc := Value.int .i64) (d := (0 : Int)) (h1 := fun _ => rfl) (show kN.C w A l.length l from hn ▸ h)
  obtain ⟨ad, rfl, hc⟩ := h2 (by omega)
  have HC := Aside0.mk hc
  have HN := Aside0.mk hn
  have y0 := hc 0 (by omega)
  rw [show ad.add 0 = ad from rfl] at y0
  have HM1 := Aside0.mk (show minL (l.take 1) = l.getD 0 0 from by
    cases l with
    | nil => simp at hn; omega
    | cons x r => rfl)
  clear h h1 h2 hc hn
  go_enter Tryd.func106, Tryd.ntmps106
  go_wp2
  go_loop [3, 4] (fun m iv => ∃ (k : Nat), 1 ≤ k ∧ k ≤ n ∧ iv = .int .i64 k ∧ m = .int .i64 (minL (l.take k))) (fun _ iv => n - (intOf iv).toNat)
  case atStart => exact ⟨1, by omega, by omega, rfl, by rw [HM1.out]; first | rfl | simp [List.getD_eq_getElem?_getD]⟩
  case round =>
    obtain ⟨k, hk0, hk, rfl, rfl⟩ := hrel
    by_cases hlt : k < n
    · have yk := HC.out k (by have := HN.out; omega)
      have HS := Aside0.mk (show minL (l.take (k + 1)) = min (minL (l.take k)) (l.getD k 0) from by
        have hkl : k < l.length := by have := HN.out; omega
        rw [List.take_add_one, List.getElem?_eq_getElem hkl]
        show minL (l.take k ++ [l[k]]) = _
        rw [minL_snoc _ _ (by intro e; have h5 : (l.take k).length = 0 := congrArg List.length e; rw [List.length_take] at h5; omega), List.getD_eq_getElem?_getD, List.getElem?_eq_getElem hkl]
        rfl)
      generalize l.getD k 0 = y at yk HS
      generalize minL (l.take k) = m at HS ⊢
      have hi1 : (k : Int) < (n : Int) := by omega
      go_wp2
      all_goals
        go_round
        case rel => exact ⟨k + 1, by omega, by omega, by go_num, by rw [HS.out]; first | rfl | (congr 1; omega)⟩
        case measure => simp [intOf]; omega
    · obtain rfl : k = n := by omega
      go_wp2
      go_ret
      exact ⟨by rw [List.take_of_length_le (by have := HN.out; omega)]; rfl, rfl⟩
set_option maxRecDepth 100000 in
set_option maxHeartbeats 1000000 in
theorem least_any (A : Option Addr) (n c : Nat) (l : List Int) (w : World) (h : kN.C w A n l) (hn : l.length = n) (hl : n ≤ 1000) :
    Calls Tryd.prog 107 #[.slice A n c] w fun e w' => e = .returned (.tuple #[.int .i64 (dueR l).1, .bool (dueR l).2]) ∧ w = w' := by
  by_cases h0 : n = 0
  · subst h0
    have hl0 : l = [] := List.eq_nil_of_length_eq_zero hn
    subst hl0
    clear h hn
    go_enter Tryd.func107, Tryd.ntmps107
    go_wp2
    go_ret2
    exact ⟨rfl, rfl⟩
  · have hne : l ≠ [] := fun e => h0 (by rw [← hn, e]; rfl)
    have hd : dueR l = (minL l, true) := if_neg hne
    have HM := Aside0.mk (smin_any A n c l w h hn (by omega) hl)
    have d0 : ((n : Int) == 0) = false := by
      have : (n : Int) ≠ 0 := by omega
      simpa using this
    rw [hd]
    clear h hn hne hd
    go_enter Tryd.func107, Tryd.ntmps107
    go_wp2_with (go_at_call 106; go_loud (refine HM.out.mono ?_; rintro e w1 ⟨rfl, hw⟩; subst hw))
    go_ret2
    exact ⟨rfl, rfl⟩
set_option maxRecDepth 100000 in
set_option maxHeartbeats 8000000 in
theorem pdue_any (B : Nat) (g : Nat) (vd : Value) (o : Option DD) (os : Nat → Ob) (vm vb : Nat → Value) (n0 : Int) (w : World) (h : PrAt w g vd os vm vb true n0) (hd : DictV B w vd o) (ht : Tbl w) (hg : ∀ d, o = some d → Good d) (hmw : ∀ i, i < 8 → (∀ m ∈ (os i).maps, m.Wf) ∧ (os i).maps.length ≤ 1000) :
    Calls Tryd.prog 59 #[.pointer (some ⟨g, 0, none⟩)] w fun e w' => e = .returned (.tuple #[.int .i64 (dueR (dueL o os 8)).1, .bool (dueR (dueL o os 8)).2]) ∧ Below w.heap.size w w' := by
  have HCHA := Aside0.mk fun (i : Nat) (hi : i < 8) (X : World) (hX : Below w.heap.size w X) => pchanged_any B g vd o os vm vb true n0 i X (h.below hX) hi (hd.below hX) (ht.below hX) hg (hmw i hi).1 (hmw i hi).2
  have HYA := Aside0.mk fun (i : Nat) (hi : i < 8) (X : World) (hX : Below w.heap.size w X) => (show _ ∧ _ ∧ _ ∧ _ ∧ _ ∧ _ ∧ _ ∧ _ ∧ _ ∧ _ from ⟨pw_cell_below hX (h.ob i hi 0 _ rfl), pw_cell_below hX (h.ob i hi 1 _ rfl), pw_cell_below hX (h.ob i hi 2 _ rfl), pw_cell_below hX (h.ob i hi 3 _ rfl), pw_cell_below hX (h.ob i hi 4 _ rfl), pw_cell_below hX (h.ob i hi 5 _ rfl), pw_cell_below hX (h.ob i hi 7 _ rfl), pw_cell_below hX (h.ob i hi 9 _ rfl), pw_cell_below hX (h.ob i hi 10 _ rfl), trivial⟩)
  have c5 := h.gs
  clear h hd ht hg hmw
  go_enter Tryd.func59, Tryd.ntmps59
  go_wp2
  clear c5
  go_loopw [4, 16] (fun lv iv wr => ∃ (i : Nat), i ≤ 8 ∧ iv = .int .i64 i ∧ Aside0 (Kd.R kN 2 wr w.heap.size (fun _ => True) lv (dueL o os i)) ∧ Aside0 ((dueL o os i).length ≤ i) ∧ Aside0 (Below w.heap.size w wr)) (fun _ iv _ => 8 - (intOf iv).toNat)
  case atStart => exact ⟨0, by omega, rfl, ⟨Kd.R_nil _ _ _ _ _⟩, ⟨Nat.le_refl _⟩, ⟨Below.refl _ _⟩⟩
  case round =>
    obtain ⟨i, hi, rfl, HRO, HLN, HW⟩ := hrel
    by_cases hlt : i < 8
    · have hi1 : (i : Int) < 8 := by omega
      obtain ⟨y0, y1, y2, y3, y4, y5, y7, y9, y10, -⟩ := HYA.out i hlt wr HW.out
      rw [Nat.add_zero] at y0
      have HYI := Aside0.mk (HYA.out i hlt)
      have HCH := Aside0.mk (HCHA.out i hlt)
      have HTM := Aside0.mk (fun X => ptimed_any (os i).cm X)
      have HSZ := Aside0.mk HW.out.size
      obtain ⟨x, hx⟩ : ∃ x, os i = x := ⟨_, rfl⟩
      have HX := Aside0.mk hx
      rw [hx] at y0 y1 y2 y3 y4 y5 y7 y9 y10 HYI HCH HTM
      clear hx
      obtain ⟨tm, htm⟩ : ∃ tm, x.cm.timed = tm := ⟨_, rfl⟩
      obtain ⟨ch, hch⟩ : ∃ ch, chgC o x = ch := ⟨_, rfl⟩
      rw [htm] at HTM
      rw [hch] at HCH
      have HTC := Aside0.mk (And.intro htm hch)
      clear htm hch
      obtain ⟨⟨on, id, kind, inh, ev, st⟩, maps, sent, bts, at_, wanted, counts, begun⟩ := x
      simp only at y0 y1 y2 y3 y4 y5 y7 y9 y10 HYI
      cases tm with
      | false =>
        have HNX := Aside0.mk (show dueL o os (i + 1) = dueL o os i from by
          show dueL o os i ++ (dueC o (os i)).toList = _
          rw [HX.out]
          unfold dueC
          rw [HTC.out.1]
          simp)
        go_wp2_with (go_at_call 95; go_loud (refine (HTM.out _).mono ?_; rintro e w1 ⟨rfl, hb1⟩; have HB1 := Aside0.mk (HW.out.trans (hb1.mono HW.out.size)); obtain ⟨z0, z1, z2, z3, z4, z5, z7, z9, z10, -⟩ := HYI.out _ HB1.out; have HRW := Aside0.mk (Kd.R_below HRO.out hb1); have HWW := Aside0.mk HB1.out; have HSZ1 := Aside0.mk HB1.out.size; clear hb1))
        go_roundw
        case rel => exact ⟨i + 1, by omega, by go_num, ⟨by rw [HNX.out]; exact HRW.out⟩, ⟨by rw [HNX.out]; have := HLN.out; omega⟩, HWW⟩
        case measure => simp [intOf]; omega
      | true =>
        cases sent with
        | false =>
          have HNX := Aside0.mk (show dueL o os (i + 1) = dueL o os i ++ [at_] from by
            show dueL o os i ++ (dueC o (os i)).toList = _
            rw [HX.out]
            unfold dueC
            rw [HTC.out.1]
            simp)
          go_wp2_with (first | (go_at_call 95; go_loud (refine (HTM.out _).mono ?_; rintro e w1 ⟨rfl, hb1⟩; have HB1 := Aside0.mk (HW.out.trans (hb1.mono HW.out.size)); obtain ⟨z0, z1, z2, z3, z4, z5, z7, z9, z10, -⟩ := HYI.out _ HB1.out; have HRW := Aside0.mk (Kd.R_below HRO.out hb1); have HWW := Aside0.mk HB1.out; have HSZ1 := Aside0.mk HB1.out.size; clear hb1)) | ((with_reducible refine gate_builtin (b := .append) (xs := #[.tmp 37, .tmp 42]) rfl ?_); at_builtin; go_loud (refine Kd.R_append kN (w0 := w) w.heap.size rfl (.tmp 37) (.tmp 42) 174 2 (.int .i64 0) 8 rfl Tryd.underlying174 info_i64 rfl (by decide) (by have := HLN.out; omega) _ (dueL o os i) (at_) [.int .i64 (at_)] (fun _ => True) (fun _ => False) rfl rfl rfl (fun _ hk => hk.elim) (fun _ _ => trivial) HRW.out HWW.out HSZ1.out (by have := HLN.out; omega) ?_; intro v9 w9 hown hb hg hat; have HO9 := Aside0.mk hown; have HW9 := Aside0.mk hb; clear hown hb hg hat)))
          go_roundw
          case rel => exact ⟨i + 1, by omega, by go_num, ⟨by rw [HNX.out]; exact HO9.out⟩, ⟨by rw [HNX.out, List.length_append]; have := HLN.out; simp; omega⟩, HW9⟩
          case measure => simp [intOf]; omega
        | true =>
          obtain ⟨sv, hsv⟩ : ∃ sv, wrap64 (at_ + inh) = sv := ⟨_, rfl⟩
          obtain ⟨mv, hmv⟩ : ∃ mv, wrap64 (at_ + max inh ev) = mv := ⟨_, rfl⟩
          have HSV := Aside0.mk (And.intro hsv hmv)
          clear hsv hmv
          cases ch with
          | true =>
            have e1 : IntKind.i64.wrap (at_ + inh) = sv := by rw [i64_w]; exact HSV.out.1
            have HNX := Aside0.mk (show dueL o os (i + 1) = dueL o os i ++ [sv] from by
              show dueL o os i ++ (dueC o (os i)).toList = _
              rw [HX.out]
              unfold dueC
              rw [HTC.out.1, HTC.out.2]
              simp [HSV.out.1])
            go_wp2_with (first | (go_at_call 95; go_loud (refine (HTM.out _).mono ?_; rintro e w1 ⟨rfl, hb1⟩; have HB1 := Aside0.mk (HW.out.trans (hb1.mono HW.out.size)); obtain ⟨z0, z1, z2, z3, z4, z5, z7, z9, z10, -⟩ := HYI.out _ HB1.out; have HRW := Aside0.mk (Kd.R_below HRO.out hb1); have HWW := Aside0.mk HB1.out; have HSZ1 := Aside0.mk HB1.out.size; clear hb1)) | (go_at_call 96; go_loud (refine (HCH.out _ HB1.out).mono ?_; rintro e w3 ⟨rfl, hb3⟩; have HB3 := Aside0.mk (HB1.out.trans (hb3.mono HB1.out.size)); obtain ⟨x0, x1, x2, x3, x4, x5, x7, x9, x10, -⟩ := HYI.out _ HB3.out; have HRW3 := Aside0.mk (Kd.R_below HRW.out hb3); have HSZ3 := Aside0.mk HB3.out.size; clear hb3)))
            have u9 : ∀ X, Below w.heap.size w X → X.cell? ⟨g, 1 + i * 13 + 9, none⟩ = some (.int .i64 at_) := fun X hX => (HYI.out X hX).2.2.2.2.2.2.2.1
            have u3 : ∀ X, Below w.heap.size w X → X.cell? ⟨g, 1 + i * 13 + 3, none⟩ = some (.int .i64 inh) := fun X hX => (HYI.out X hX).2.2.2.1
            have u4 : ∀ X, Below w.heap.size w X → X.cell? ⟨g, 1 + i * 13 + 4, none⟩ = some (.int .i64 ev) := fun X hX => (HYI.out X hX).2.2.2.2.1
            have hS0 : Below w.heap.size w w3.drew := below_drew HB3.out
            clear x0 x1 x2 x3 x4 x5 x7 x9 x10 z0 z1 z2 z3 z4 z5 z7 z9 z10 y0 y1 y2 y3 y4 y5 y7 y9 y10
            go_region_held3 (fun X => Below w.heap.size w X) (first | assumption | exact hS0 | exact below_step (by assumption) (below_alloc (Below.refl _ _) _))
              (((refine Kd.R_append_step kN (w0 := w) (W := w3.drew) w.heap.size (by rfl) (.tmp 54) (.tmp 65) 174 2 (.int .i64 0) 8 rfl Tryd.underlying174 info_i64 rfl (by decide) (by have := HLN.out; omega) _ (dueL o os i) (sv) [.int .i64 (sv)] (fun _ => True) (fun _ => False) rfl rfl rfl (fun _ hk => hk.elim) (fun _ _ => trivial) (Kd.R_drew HRW3.out) (below_drew HB3.out) HB3.out.size (by have := HLN.out; omega) ?_; intro v9 w9 hown hb9 hg hat; have HO9 := Aside0.mk hown; have HW9 := Aside0.mk hb9; clear hown hg hat)))
            go_wp2
            go_roundw
            case rel => exact ⟨i + 1, by omega, by go_num, ⟨by rw [HNX.out]; exact HO9.out⟩, ⟨by rw [HNX.out, List.length_append]; have := HLN.out; simp; omega⟩, HW9⟩
            case measure => simp [intOf]; omega
          | false =>
            cases wanted with
            | true =>
              have e1 : IntKind.i64.wrap (at_ + inh) = sv := by rw [i64_w]; exact HSV.out.1
              have HNX := Aside0.mk (show dueL o os (i + 1) = dueL o os i ++ [sv] from by
                show dueL o os i ++ (dueC o (os i)).toList = _
                rw [HX.out]
                unfold dueC
                rw [HTC.out.1, HTC.out.2]
                simp [HSV.out.1])
              go_wp2_with (first | (go_at_call 95; go_loud (refine (HTM.out _).mono ?_; rintro e w1 ⟨rfl, hb1⟩; have HB1 := Aside0.mk (HW.out.trans (hb1.mono HW.out.size)); obtain ⟨z0, z1, z2, z3, z4, z5, z7, z9, z10, -⟩ := HYI.out _ HB1.out; have HRW := Aside0.mk (Kd.R_below HRO.out hb1); have HWW := Aside0.mk HB1.out; have HSZ1 := Aside0.mk HB1.out.size; clear hb1)) | (go_at_call 96; go_loud (refine (HCH.out _ HB1.out).mono ?_; rintro e w3 ⟨rfl, hb3⟩; have HB3 := Aside0.mk (HB1.out.trans (hb3.mono HB1.out.size)); obtain ⟨x0, x1, x2, x3, x4, x5, x7, x9, x10, -⟩ := HYI.out _ HB3.out; have HRW3 := Aside0.mk (Kd.R_below HRW.out hb3); have HSZ3 := Aside0.mk HB3.out.size; clear hb3)))
              have u9 : ∀ X, Below w.heap.size w X → X.cell? ⟨g, 1 + i * 13 + 9, none⟩ = some (.int .i64 at_) := fun X hX => (HYI.out X hX).2.2.2.2.2.2.2.1
              have u3 : ∀ X, Below w.heap.size w X → X.cell? ⟨g, 1 + i * 13 + 3, none⟩ = some (.int .i64 inh) := fun X hX => (HYI.out X hX).2.2.2.1
              have u4 : ∀ X, Below w.heap.size w X → X.cell? ⟨g, 1 + i * 13 + 4, none⟩ = some (.int .i64 ev) := fun X hX => (HYI.out X hX).2.2.2.2.1
              have hS0 : Below w.heap.size w w3.drew := below_drew HB3.out
              clear x0 x1 x2 x3 x4 x5 x7 x9 x10 z0 z1 z2 z3 z4 z5 z7 z9 z10 y0 y1 y2 y3 y4 y5 y7 y9 y10
              go_region_held3 (fun X => Below w.heap.size w X) (first | assumption | exact hS0 | exact below_step (by assumption) (below_alloc (Below.refl _ _) _))
                (((refine Kd.R_append_step kN (w0 := w) (W := w3.drew) w.heap.size (by rfl) (.tmp 54) (.tmp 65) 174 2 (.int .i64 0) 8 rfl Tryd.underlying174 info_i64 rfl (by decide) (by have := HLN.out; omega) _ (dueL o os i) (sv) [.int .i64 (sv)] (fun _ => True) (fun _ => False) rfl rfl rfl (fun _ hk => hk.elim) (fun _ _ => trivial) (Kd.R_drew HRW3.out) (below_drew HB3.out) HB3.out.size (by have := HLN.out; omega) ?_; intro v9 w9 hown hb9 hg hat; have HO9 := Aside0.mk hown; have HW9 := Aside0.mk hb9; clear hown hg hat)))
              go_wp2
              go_roundw
              case rel => exact ⟨i + 1, by omega, by go_num, ⟨by rw [HNX.out]; exact HO9.out⟩, ⟨by rw [HNX.out, List.length_append]; have := HLN.out; simp; omega⟩, HW9⟩
              case measure => simp [intOf]; omega
            | false =>
              by_cases hev : 0 < ev
              · have de := decide_eq_true hev
                by_cases hm : inh < ev
                · have e2 : IntKind.i64.wrap (at_ + ev) = mv := by rw [i64_w, ← HSV.out.2, Int.max_eq_right (by omega)]
                  have e3 : wrap64 (at_ + ev) = mv := by rw [← HSV.out.2, Int.max_eq_right (by omega)]
                  have HNX := Aside0.mk (show dueL o os (i + 1) = dueL o os i ++ [mv] from by
                    show dueL o os i ++ (dueC o (os i)).toList = _
                    rw [HX.out]
                    unfold dueC
                    rw [HTC.out.1, HTC.out.2]
                    simp [hev, HSV.out.2])
                  go_wp2_with (first | (go_at_call 95; go_loud (refine (HTM.out _).mono ?_; rintro e w1 ⟨rfl, hb1⟩; have HB1 := Aside0.mk (HW.out.trans (hb1.mono HW.out.size)); obtain ⟨z0, z1, z2, z3, z4, z5, z7, z9, z10, -⟩ := HYI.out _ HB1.out; have HRW := Aside0.mk (Kd.R_below HRO.out hb1); have HWW := Aside0.mk HB1.out; have HSZ1 := Aside0.mk HB1.out.size; clear hb1)) | (go_at_call 96; go_loud (refine (HCH.out _ HB1.out).mono ?_; rintro e w3 ⟨rfl, hb3⟩; have HB3 := Aside0.mk (HB1.out.trans (hb3.mono HB1.out.size)); obtain ⟨x0, x1, x2, x3, x4, x5, x7, x9, x10, -⟩ := HYI.out _ HB3.out; have HRW3 := Aside0.mk (Kd.R_below HRW.out hb3); have HSZ3 := Aside0.mk HB3.out.size; clear hb3)))
                  have u9 : ∀ X, Below w.heap.size w X → X.cell? ⟨g, 1 + i * 13 + 9, none⟩ = some (.int .i64 at_) := fun X hX => (HYI.out X hX).2.2.2.2.2.2.2.1
                  have u3 : ∀ X, Below w.heap.size w X → X.cell? ⟨g, 1 + i * 13 + 3, none⟩ = some (.int .i64 inh) := fun X hX => (HYI.out X hX).2.2.2.1
                  have u4 : ∀ X, Below w.heap.size w X → X.cell? ⟨g, 1 + i * 13 + 4, none⟩ = some (.int .i64 ev) := fun X hX => (HYI.out X hX).2.2.2.2.1
                  have hS0 : Below w.heap.size w w3.drew := below_drew HB3.out
                  clear x0 x1 x2 x3 x4 x5 x7 x9 x10 z0 z1 z2 z3 z4 z5 z7 z9 z10 y0 y1 y2 y3 y4 y5 y7 y9 y10
                  go_region_held3 (fun X => Below w.heap.size w X) (first | assumption | exact hS0 | exact below_step (by assumption) (below_alloc (Below.refl _ _) _))
                    (((refine Kd.R_append_step kN (w0 := w) (W := w3.drew) w.heap.size (by rfl) (.tmp 74) (.tmp 91) 174 2 (.int .i64 0) 8 rfl Tryd.underlying174 info_i64 rfl (by decide) (by have := HLN.out; omega) _ (dueL o os i) (mv) [.int .i64 (mv)] (fun _ => True) (fun _ => False) rfl rfl rfl (fun _ hk => hk.elim) (fun _ _ => trivial) (Kd.R_drew HRW3.out) (below_drew HB3.out) HB3.out.size (by have := HLN.out; omega) ?_; intro v9 w9 hown hb9 hg hat; have HO9 := Aside0.mk hown; have HW9 := Aside0.mk hb9; clear hown hg hat)))
                  go_wp2
                  go_roundw
                  case rel => exact ⟨i + 1, by omega, by go_num, ⟨by rw [HNX.out]; exact HO9.out⟩, ⟨by rw [HNX.out, List.length_append]; have := HLN.out; simp; omega⟩, HW9⟩
                  case measure => simp [intOf]; omega
                · have hm2 : ev ≤ inh := by omega
                  have hm3 : (inh < ev) = False := eq_false hm
                  have e2 : IntKind.i64.wrap (at_ + inh) = mv := by rw [i64_w, ← HSV.out.2, Int.max_eq_left (by omega)]
                  have e3 : wrap64 (at_ + inh) = mv := by rw [← HSV.out.2, Int.max_eq_left (by omega)]
                  have HNX := Aside0.mk (show dueL o os (i + 1) = dueL o os i ++ [mv] from by
                    show dueL o os i ++ (dueC o (os i)).toList = _
                    rw [HX.out]
                    unfold dueC
                    rw [HTC.out.1, HTC.out.2]
                    simp [hev, HSV.out.2])
                  go_wp2_with (first | (go_at_call 95; go_loud (refine (HTM.out _).mono ?_; rintro e w1 ⟨rfl, hb1⟩; have HB1 := Aside0.mk (HW.out.trans (hb1.mono HW.out.size)); obtain ⟨z0, z1, z2, z3, z4, z5, z7, z9, z10, -⟩ := HYI.out _ HB1.out; have HRW := Aside0.mk (Kd.R_below HRO.out hb1); have HWW := Aside0.mk HB1.out; have HSZ1 := Aside0.mk HB1.out.size; clear hb1)) | (go_at_call 96; go_loud (refine (HCH.out _ HB1.out).mono ?_; rintro e w3 ⟨rfl, hb3⟩; have HB3 := Aside0.mk (HB1.out.trans (hb3.mono HB1.out.size)); obtain ⟨x0, x1, x2, x3, x4, x5, x7, x9, x10, -⟩ := HYI.out _ HB3.out; have HRW3 := Aside0.mk (Kd.R_below HRW.out hb3); have HSZ3 := Aside0.mk HB3.out.size; clear hb3)))
                  have u9 : ∀ X, Below w.heap.size w X → X.cell? ⟨g, 1 + i * 13 + 9, none⟩ = some (.int .i64 at_) := fun X hX => (HYI.out X hX).2.2.2.2.2.2.2.1
                  have u3 : ∀ X, Below w.heap.size w X → X.cell? ⟨g, 1 + i * 13 + 3, none⟩ = some (.int .i64 inh) := fun X hX => (HYI.out X hX).2.2.2.1
                  have u4 : ∀ X, Below w.heap.size w X → X.cell? ⟨g, 1 + i * 13 + 4, none⟩ = some (.int .i64 ev) := fun X hX => (HYI.out X hX).2.2.2.2.1
                  have hS0 : Below w.heap.size w w3.drew := below_drew HB3.out
                  clear x0 x1 x2 x3 x4 x5 x7 x9 x10 z0 z1 z2 z3 z4 z5 z7 z9 z10 y0 y1 y2 y3 y4 y5 y7 y9 y10
                  go_region_held3 (fun X => Below w.heap.size w X) (first | assumption | exact hS0 | exact below_step (by assumption) (below_alloc (Below.refl _ _) _))
                    (((refine Kd.R_append_step kN (w0 := w) (W := w3.drew) w.heap.size (by rfl) (.tmp 74) (.tmp 91) 174 2 (.int .i64 0) 8 rfl Tryd.underlying174 info_i64 rfl (by decide) (by have := HLN.out; omega) _ (dueL o os i) (mv) [.int .i64 (mv)] (fun _ => True) (fun _ => False) rfl rfl rfl (fun _ hk => hk.elim) (fun _ _ => trivial) (Kd.R_drew HRW3.out) (below_drew HB3.out) HB3.out.size (by have := HLN.out; omega) ?_; intro v9 w9 hown hb9 hg hat; have HO9 := Aside0.mk hown; have HW9 := Aside0.mk hb9; clear hown hg hat)))
                  go_wp2
                  go_roundw
                  case rel => exact ⟨i + 1, by omega, by go_num, ⟨by rw [HNX.out]; exact HO9.out⟩, ⟨by rw [HNX.out, List.length_append]; have := HLN.out; simp; omega⟩, HW9⟩
                  case measure => simp [intOf]; omega
              · have de := decide_eq_false hev
                have HNX := Aside0.mk (show dueL o os (i + 1) = dueL o os i from by
                  show dueL o os i ++ (dueC o (os i)).toList = _
                  rw [HX.out]
                  unfold dueC
                  rw [HTC.out.1, HTC.out.2]
                  simp [hev])
                go_wp2_with (first | (go_at_call 95; go_loud (refine (HTM.out _).mono ?_; rintro e w1 ⟨rfl, hb1⟩; have HB1 := Aside0.mk (HW.out.trans (hb1.mono HW.out.size)); obtain ⟨z0, z1, z2, z3, z4, z5, z7, z9, z10, -⟩ := HYI.out _ HB1.out; have HRW := Aside0.mk (Kd.R_below HRO.out hb1); have HWW := Aside0.mk HB1.out; have HSZ1 := Aside0.mk HB1.out.size; clear hb1)) | (go_at_call 96; go_loud (refine (HCH.out _ HB1.out).mono ?_; rintro e w3 ⟨rfl, hb3⟩; have HB3 := Aside0.mk (HB1.out.trans (hb3.mono HB1.out.size)); obtain ⟨x0, x1, x2, x3, x4, x5, x7, x9, x10, -⟩ := HYI.out _ HB3.out; have HRW3 := Aside0.mk (Kd.R_below HRW.out hb3); have HSZ3 := Aside0.mk HB3.out.size; clear hb3)))
                go_roundw
                case rel => exact ⟨i + 1, by omega, by go_num, ⟨by rw [HNX.out]; exact HRW3.out⟩, ⟨by rw [HNX.out]; have := HLN.out; omega⟩, HB3⟩
                case measure => simp [intOf]; omega
    · obtain rfl : i = 8 := by omega
      have hi1 : ¬ (8 : Int) < 8 := by omega
      obtain ⟨A, c, hv, hl, hC⟩ := Kd.R_reads HRO.out
      subst hv
      obtain ⟨n, hn⟩ : ∃ n, (dueL o os 8).length = n := ⟨_, rfl⟩
      rw [hn] at hC
      have HLE := Aside0.mk (least_any A n c (dueL o os 8) wr hC hn (by have := HLN.out; omega))
      rw [hn]
      clear hC hl hn
      go_wp2_with (go_at_call 107; go_loud (refine HLE.out.mono ?_; rintro e w1 ⟨rfl, hw⟩; subst hw))
      go_ret2
      exact ⟨rfl, HW.out⟩
end Go.Proofs.YtokebpeplopjhaaDoor.Mp
