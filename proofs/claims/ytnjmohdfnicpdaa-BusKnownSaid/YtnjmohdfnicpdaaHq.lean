/- The document's Next, Copy (filled by fill.py). -/
import Derived.Test.YtnjmohdfnicpdaaHp
namespace Go.Proofs.Ytnjmohdfnicpdaa.Bus
open Go.RowKit Go.Shelf Go.Lib Go.Sort Go.Proofs.Ytnjmohdfnicpdaa.Frm Go.Proofs.Ytnjmohdfnicpdaa.Rng Go.Proofs.YtnjmohdfnicpdaaW.PrintWords Go.Proofs.YtnjmohdfnicpdaaW.PrintMore Go.Proofs.YtnjmohdfnicpdaaW.PrintLast

theorem size_rsn : (Try.prog.info? 72).map (·.size) = some 13 := by kernel_rfl
theorem rnext_res (tmps : Array Value) (w : World) (g : Nat) (s : Sn) (x : Value) (hp : tmps.getD 2 undef = .pointer (some ⟨g, 0, none⟩)) (ht : tmps.getD 3 undef = x) (hc : w.heap[g]? = some (.cells s.cells.toArray 72 (0, 0))) :
    (results Try.f28 tmps).run Try.prog w = .ok (.tuple #[.agg s.cells.toArray, x]) w := by
  rw [← ht]
  exact results_ct rfl tmps w g _ _ _ _ hp hc Try.underlying72 rfl (by rw [size_rsn]; rfl)
/-- What the document's Next tells and leaves. -/
def RNextP (l l' : List Sn) (x : Sn) (b : Bool) : Prop := (l = [] ∧ l' = [] ∧ x = sn0 ∧ b = false) ∨ (l = x :: l' ∧ b = true)
theorem C_tail {w : World} {b o c : Nat} {x : Sn} {l : List Sn} (h : kSn.C w (some ⟨b, o, none⟩) (x :: l).length (x :: l)) (hc : (x :: l).length ≤ c) : kSn.C w (if c = 1 then some ⟨b, o, none⟩ else some ⟨b, o + 13, none⟩) l.length l := by
  have h1 := Kd.C_drop (m := 1) h (by simp) hc
  simp only [List.drop_succ_cons, List.drop_zero] at h1
  have h2 : (some ⟨b, o, none⟩ : Option Addr).map (·.add (1 * kSn.sz)) = some ⟨b, o + 13, none⟩ := by
    simp only [Option.map_some]
    rw [Addr.add_mid]
    rfl
  rw [h2] at h1
  exact h1
set_option maxHeartbeats 4000000 in
set_option maxRecDepth 100000 in
theorem rnext_any (w : World) (gm : Nat) (A : Option Addr) (c : Nat) (l : List Sn) (N : Int) (h : RefAt w gm A c l N) (hl : l.length ≤ 100000) :
    Calls Try.prog 28 #[.pointer (some ⟨gm, 0, none⟩)] w fun e w' => ∃ x b, e = .returned (.tuple #[.agg #[.int .i64 x.nd, .int .u16 x.id, .int .i64 x.len, .int .u8 x.x0, .int .u8 x.x1, .int .u8 x.x2, .int .u8 x.x3, .int .u8 x.x4, .int .u8 x.x5, .int .u8 x.x6, .int .u8 x.x7, .bool x.rem, .int .i64 x.num], .bool b]) ∧ ∃ A' c' l', RefAt w' gm A' c' l' N ∧ RNextP l l' x b ∧ RTurn gm A A' w w' := by
  have HL := Aside0.mk h.lt
  have hbw := below_alloc (Below.refl w.heap.size w) (.cells #[.int .i64 0, .int .u16 0, .int .i64 0, .int .u8 0, .int .u8 0, .int .u8 0, .int .u8 0, .int .u8 0, .int .u8 0, .int .u8 0, .int .u8 0, .bool false, .int .i64 0] 72)
  have hnw := heap_alloc_new w (.cells #[.int .i64 0, .int .u16 0, .int .i64 0, .int .u8 0, .int .u8 0, .int .u8 0, .int .u8 0, .int .u8 0, .int .u8 0, .int .u8 0, .int .u8 0, .bool false, .int .i64 0] 72)
  have hb := h.below hbw
  have HB := Aside0.mk hb
  have z0 := hb.cell0
  have HW := Aside0.mk hbw
  have HNW := Aside0.mk hnw
  rcases l with _ | ⟨x, l⟩
  · clear h hbw hnw hb
    go_enter Try.func28, Try.ntmps28
    go_wp2_with (fail)
    refine bodyPost_ret (rnext_res _ _ w.heap.size sn0 _ rfl rfl HNW.out) rfl ?_
    exact ⟨sn0, false, rfl, A, c, [], HB.out, .inl ⟨rfl, rfl, rfl, rfl⟩, RTurn.below HW.out⟩
  · obtain ⟨b, o, rfl, hc⟩ := h.cells (i := 0) (by simp)
    simp only [Nat.zero_mul, Nat.add_zero] at hc
    rw [show nth (x :: l) 0 = x from rfl] at hc
    have hcap := h.cap
    have hbg := h.far (by simp) _ rfl
    have hbl : b < w.heap.size := World.block_lt_of_cell? w _ hc.1
    have HCT := Aside0.mk (C_tail h.row h.cap)
    have H := Aside0.mk h
    obtain ⟨n, hn⟩ : ∃ n, l.length = n := ⟨_, rfl⟩
    have HN := Aside0.mk hn
    rw [List.length_cons, hn] at z0 hcap hl
    have hc1 : ∀ j v, w.cell? ⟨b, j, none⟩ = some v → (w.alloc (.cells #[.int .i64 0, .int .u16 0, .int .i64 0, .int .u8 0, .int .u8 0, .int .u8 0, .int .u8 0, .int .u8 0, .int .u8 0, .int .u8 0, .int .u8 0, .bool false, .int .i64 0] 72)).cell? ⟨b, j, none⟩ = some v := fun j v hv => pw_cell_below hbw hv
    obtain ⟨e0, e1, e2, e3, e4, e5, e6, e7, e8, e9, e10, e11, e12⟩ := hc
    have f0 := hc1 _ _ e0
    have f1 := hc1 _ _ e1
    have f2 := hc1 _ _ e2
    have f3 := hc1 _ _ e3
    have f4 := hc1 _ _ e4
    have f5 := hc1 _ _ e5
    have f6 := hc1 _ _ e6
    have f7 := hc1 _ _ e7
    have f8 := hc1 _ _ e8
    have f9 := hc1 _ _ e9
    have f10 := hc1 _ _ e10
    have f11 := hc1 _ _ e11
    have f12 := hc1 _ _ e12
    have bn : (0 : Int) < ((n + 1 : Nat) : Int) := by omega
    have bn1 : (1 : Int) ≤ ((n + 1 : Nat) : Int) := by omega
    have bc : (1 : Int) ≤ (c : Int) := by omega
    have bnz : (((n + 1 : Nat) : Int) == 0) = false := by rw [beq_eq_false_iff_ne]; omega
    clear h hbw hnw hb hn hc1 e0 e1 e2 e3 e4 e5 e6 e7 e8 e9 e10 e11 e12
    go_enter Try.func28, Try.ntmps28
    go_upto_region 4 with (fail)
    clear f0 f1 f2 f3 f4 f5 f6 f7 f8 f9 f10 f11 f12 z0
    have h2 := two_new1 w (.cells #[.int .i64 0, .int .u16 0, .int .i64 0, .int .u8 0, .int .u8 0, .int .u8 0, .int .u8 0, .int .u8 0, .int .u8 0, .int .u8 0, .int .u8 0, .bool false, .int .i64 0] 72) (.cells #[.int .i64 x.nd, .int .u16 x.id, .int .i64 x.len, .int .u8 x.x0, .int .u8 x.x1, .int .u8 x.x2, .int .u8 x.x3, .int .u8 x.x4, .int .u8 x.x5, .int .u8 x.x6, .int .u8 x.x7, .bool x.rem, .int .i64 x.num] 72) 0
    have h3 := two_new2 w (.cells #[.int .i64 0, .int .u16 0, .int .i64 0, .int .u8 0, .int .u8 0, .int .u8 0, .int .u8 0, .int .u8 0, .int .u8 0, .int .u8 0, .int .u8 0, .bool false, .int .i64 0] 72) (.cells #[.int .i64 x.nd, .int .u16 x.id, .int .i64 x.len, .int .u8 x.x0, .int .u8 x.x1, .int .u8 x.x2, .int .u8 x.x3, .int .u8 x.x4, .int .u8 x.x5, .int .u8 x.x6, .int .u8 x.x7, .bool x.rem, .int .i64 x.num] 72) 0
    have h4 := two_below w (.cells #[.int .i64 0, .int .u16 0, .int .i64 0, .int .u8 0, .int .u8 0, .int .u8 0, .int .u8 0, .int .u8 0, .int .u8 0, .int .u8 0, .int .u8 0, .bool false, .int .i64 0] 72) (.cells #[.int .i64 x.nd, .int .u16 x.id, .int .i64 x.len, .int .u8 x.x0, .int .u8 x.x1, .int .u8 x.x2, .int .u8 x.x3, .int .u8 x.x4, .int .u8 x.x5, .int .u8 x.x6, .int .u8 x.x7, .bool x.rem, .int .i64 x.num] 72) 0
    change ((w.alloc (.cells #[.int .i64 0, .int .u16 0, .int .i64 0, .int .u8 0, .int .u8 0, .int .u8 0, .int .u8 0, .int .u8 0, .int .u8 0, .int .u8 0, .int .u8 0, .bool false, .int .i64 0] 72)).alloc (.cells #[.int .i64 x.nd, .int .u16 x.id, .int .i64 x.len, .int .u8 x.x0, .int .u8 x.x1, .int .u8 x.x2, .int .u8 x.x3, .int .u8 x.x4, .int .u8 x.x5, .int .u8 x.x6, .int .u8 x.x7, .bool x.rem, .int .i64 x.num] 72)).heap[w.heap.size]? = _ at h2
    change ((w.alloc (.cells #[.int .i64 0, .int .u16 0, .int .i64 0, .int .u8 0, .int .u8 0, .int .u8 0, .int .u8 0, .int .u8 0, .int .u8 0, .int .u8 0, .int .u8 0, .bool false, .int .i64 0] 72)).alloc (.cells #[.int .i64 x.nd, .int .u16 x.id, .int .i64 x.len, .int .u8 x.x0, .int .u8 x.x1, .int .u8 x.x2, .int .u8 x.x3, .int .u8 x.x4, .int .u8 x.x5, .int .u8 x.x6, .int .u8 x.x7, .bool x.rem, .int .i64 x.num] 72)).heap[w.heap.size + 1]? = _ at h3
    change Below w.heap.size w ((w.alloc (.cells #[.int .i64 0, .int .u16 0, .int .i64 0, .int .u8 0, .int .u8 0, .int .u8 0, .int .u8 0, .int .u8 0, .int .u8 0, .int .u8 0, .int .u8 0, .bool false, .int .i64 0] 72)).alloc (.cells #[.int .i64 x.nd, .int .u16 x.id, .int .i64 x.len, .int .u8 x.x0, .int .u8 x.x1, .int .u8 x.x2, .int .u8 x.x3, .int .u8 x.x4, .int .u8 x.x5, .int .u8 x.x6, .int .u8 x.x7, .bool x.rem, .int .i64 x.num] 72)) at h4
    have H2 := Aside0.mk h2
    have H3 := Aside0.mk h3
    have H4 := Aside0.mk h4
    clear h2 h3 h4 HB HW HNW
    generalize (w.alloc (.cells #[.int .i64 0, .int .u16 0, .int .i64 0, .int .u8 0, .int .u8 0, .int .u8 0, .int .u8 0, .int .u8 0, .int .u8 0, .int .u8 0, .int .u8 0, .bool false, .int .i64 0] 72)).alloc (.cells #[.int .i64 x.nd, .int .u16 x.id, .int .i64 x.len, .int .u8 x.x0, .int .u8 x.x1, .int .u8 x.x2, .int .u8 x.x3, .int .u8 x.x4, .int .u8 x.x5, .int .u8 x.x6, .int .u8 x.x7, .bool x.rem, .int .i64 x.num] 72) = W2 at H2 H3 H4 ⊢
    obtain ⟨T, hT⟩ : ∃ T, w.heap.size = T := ⟨_, rfl⟩
    have HTT := Aside0.mk hT
    rw [hT] at H2 H3 HL hbl ⊢
    have hb2 := H.out.below H4.out
    have z0 := hb2.cell0
    have zf := hb2.frozen 0
    rw [List.length_cons, HN.out] at z0
    have HB2 := Aside0.mk hb2
    clear hT hb2
    by_cases hc1 : c = 1
    · rw [if_pos hc1] at HCT
      subst hc1
      obtain rfl : n = 0 := by omega
      go_upto_region 5 with (fail)
      have hb3 := blk_put HB2.out.blk 0 (.slice (some ⟨b, o, none⟩) 0 0) rfl
      have HF3 := Aside0.mk (show Fr (fun k => k = gm) w (W2.setCell ⟨gm, 0, none⟩ (.slice (some ⟨b, o, none⟩) 0 0)) from
        (Fr.of_below H4.out).trans (Fr.setCell W2 ⟨gm, 0, none⟩ _ (.inl rfl)))
      have h32 := ((Fr.setCell (M := fun k => k = gm) W2 ⟨gm, 0, none⟩ (.slice (some ⟨b, o, none⟩) 0 0) (.inl rfl)).block T (Array.getElem?_eq_some_iff.1 H2.out).1 (by have := HL.out; omega)).trans H2.out
      have h33 := ((Fr.setCell (M := fun k => k = gm) W2 ⟨gm, 0, none⟩ (.slice (some ⟨b, o, none⟩) 0 0) (.inl rfl)).block (T + 1) (Array.getElem?_eq_some_iff.1 H3.out).1 (by have := HL.out; omega)).trans H3.out
      clear z0 zf
      generalize W2.setCell ⟨gm, 0, none⟩ (.slice (some ⟨b, o, none⟩) 0 0) = W3 at hb3 h32 h33 HF3 ⊢
      have HR3 := Aside0.mk (show RefAt W3 gm (some ⟨b, o, none⟩) 0 l N from
        ⟨by rw [HN.out]; exact hb3, by rw [HN.out]; omega, C_fr HCT.out HF3.out (fun _ ad e => by cases e; exact hbg), fun _ ad e => by cases e; exact hbg, fun ad e => by cases e; rfl⟩)
      obtain ⟨f0, f1, f2, f3, f4, f5, f6, f7, f8, f9, f10, f11, f12, f13⟩ := sn_at (s := x) h33
      obtain ⟨g0, g1, g2, g3, g4, g5, g6, g7, g8, g9, g10, g11, g12, g13⟩ := sn_at (s := sn0) h32
      simp only [sn0] at g0 g1 g2 g3 g4 g5 g6 g7 g8 g9 g10 g11 g12
      have hr := row13 (show W3.heap[T]? = some (.cells #[.int .i64 0, .int .u16 0, .int .i64 0, .int .u8 0, .int .u8 0, .int .u8 0, .int .u8 0, .int .u8 0, .int .u8 0, .int .u8 0, .int .u8 0, .bool false, .int .i64 0] 72 (0, 0)) from h32) (.int .i64 x.nd) (.int .u16 x.id) (.int .i64 x.len) (.int .u8 x.x0) (.int .u8 x.x1) (.int .u8 x.x2) (.int .u8 x.x3) (.int .u8 x.x4) (.int .u8 x.x5) (.int .u8 x.x6) (.int .u8 x.x7) (.bool x.rem) (.int .i64 x.num)
      have HR := Aside0.mk hr
      have hbz : Below T W3 (W3.setCells T 0 [.int .i64 x.nd, .int .u16 x.id, .int .i64 x.len, .int .u8 x.x0, .int .u8 x.x1, .int .u8 x.x2, .int .u8 x.x3, .int .u8 x.x4, .int .u8 x.x5, .int .u8 x.x6, .int .u8 x.x7, .bool x.rem, .int .i64 x.num]) := below_cells (Nat.le_refl _) _ _ (Below.refl _ _)
      have hfz := fr_setCells T [.int .i64 x.nd, .int .u16 x.id, .int .i64 x.len, .int .u8 x.x0, .int .u8 x.x1, .int .u8 x.x2, .int .u8 x.x3, .int .u8 x.x4, .int .u8 x.x5, .int .u8 x.x6, .int .u8 x.x7, .bool x.rem, .int .i64 x.num] 0 W3
      have HRZ := Aside0.mk (HR3.out.fr hfz (fun e => by have := HL.out; omega) (fun _ ad e => by cases e; exact fun (e : b = T) => by omega))
      have HTZ := Aside0.mk (show Fr (fun k => k = gm) w (W3.setCells T 0 [.int .i64 x.nd, .int .u16 x.id, .int .i64 x.len, .int .u8 x.x0, .int .u8 x.x1, .int .u8 x.x2, .int .u8 x.x3, .int .u8 x.x4, .int .u8 x.x5, .int .u8 x.x6, .int .u8 x.x7, .bool x.rem, .int .i64 x.num]) from HF3.out.then_ hfz (fun i hi hm => by have := HTT.out; omega))
      clear h32 h33 hb3 hr hbz hfz
      go_wp2_with (fail)
      rw [cells13]
      clear f0 f1 f2 f3 f4 f5 f6 f7 f8 f9 f10 f11 f12 f13 g0 g1 g2 g3 g4 g5 g6 g7 g8 g9 g10 g11 g12 g13
      generalize W3.setCells T 0 [.int .i64 x.nd, .int .u16 x.id, .int .i64 x.len, .int .u8 x.x0, .int .u8 x.x1, .int .u8 x.x2, .int .u8 x.x3, .int .u8 x.x4, .int .u8 x.x5, .int .u8 x.x6, .int .u8 x.x7, .bool x.rem, .int .i64 x.num] = W4 at HRZ HTZ HR ⊢
      refine bodyPost_ret (rnext_res _ _ T x _ rfl rfl HR.out) rfl ?_
      exact ⟨x, .inr ⟨rfl, _, _, l, HRZ.out, .inr ⟨rfl, rfl⟩, ⟨HTZ.out, fun ad e => .inl ⟨_, rfl, by cases e; rfl⟩⟩⟩⟩
    · rw [if_neg hc1] at HCT
      go_upto_region 5 with (fail)
      have hb3 := blk_put HB2.out.blk 0 (.slice (some ⟨b, o + 13, none⟩) n (c - 1)) rfl
      have HF3 := Aside0.mk (show Fr (fun k => k = gm) w (W2.setCell ⟨gm, 0, none⟩ (.slice (some ⟨b, o + 13, none⟩) n (c - 1))) from
        (Fr.of_below H4.out).trans (Fr.setCell W2 ⟨gm, 0, none⟩ _ (.inl rfl)))
      have h32 := ((Fr.setCell (M := fun k => k = gm) W2 ⟨gm, 0, none⟩ (.slice (some ⟨b, o + 13, none⟩) n (c - 1)) (.inl rfl)).block T (Array.getElem?_eq_some_iff.1 H2.out).1 (by have := HL.out; omega)).trans H2.out
      have h33 := ((Fr.setCell (M := fun k => k = gm) W2 ⟨gm, 0, none⟩ (.slice (some ⟨b, o + 13, none⟩) n (c - 1)) (.inl rfl)).block (T + 1) (Array.getElem?_eq_some_iff.1 H3.out).1 (by have := HL.out; omega)).trans H3.out
      clear z0 zf
      generalize W2.setCell ⟨gm, 0, none⟩ (.slice (some ⟨b, o + 13, none⟩) n (c - 1)) = W3 at hb3 h32 h33 HF3 ⊢
      have HR3 := Aside0.mk (show RefAt W3 gm (some ⟨b, o + 13, none⟩) (c - 1) l N from
        ⟨by rw [HN.out]; exact hb3, by rw [HN.out]; omega, C_fr HCT.out HF3.out (fun _ ad e => by cases e; exact hbg), fun _ ad e => by cases e; exact hbg, fun ad e => by cases e; rfl⟩)
      obtain ⟨f0, f1, f2, f3, f4, f5, f6, f7, f8, f9, f10, f11, f12, f13⟩ := sn_at (s := x) h33
      obtain ⟨g0, g1, g2, g3, g4, g5, g6, g7, g8, g9, g10, g11, g12, g13⟩ := sn_at (s := sn0) h32
      simp only [sn0] at g0 g1 g2 g3 g4 g5 g6 g7 g8 g9 g10 g11 g12
      have hr := row13 (show W3.heap[T]? = some (.cells #[.int .i64 0, .int .u16 0, .int .i64 0, .int .u8 0, .int .u8 0, .int .u8 0, .int .u8 0, .int .u8 0, .int .u8 0, .int .u8 0, .int .u8 0, .bool false, .int .i64 0] 72 (0, 0)) from h32) (.int .i64 x.nd) (.int .u16 x.id) (.int .i64 x.len) (.int .u8 x.x0) (.int .u8 x.x1) (.int .u8 x.x2) (.int .u8 x.x3) (.int .u8 x.x4) (.int .u8 x.x5) (.int .u8 x.x6) (.int .u8 x.x7) (.bool x.rem) (.int .i64 x.num)
      have HR := Aside0.mk hr
      have hbz : Below T W3 (W3.setCells T 0 [.int .i64 x.nd, .int .u16 x.id, .int .i64 x.len, .int .u8 x.x0, .int .u8 x.x1, .int .u8 x.x2, .int .u8 x.x3, .int .u8 x.x4, .int .u8 x.x5, .int .u8 x.x6, .int .u8 x.x7, .bool x.rem, .int .i64 x.num]) := below_cells (Nat.le_refl _) _ _ (Below.refl _ _)
      have hfz := fr_setCells T [.int .i64 x.nd, .int .u16 x.id, .int .i64 x.len, .int .u8 x.x0, .int .u8 x.x1, .int .u8 x.x2, .int .u8 x.x3, .int .u8 x.x4, .int .u8 x.x5, .int .u8 x.x6, .int .u8 x.x7, .bool x.rem, .int .i64 x.num] 0 W3
      have HRZ := Aside0.mk (HR3.out.fr hfz (fun e => by have := HL.out; omega) (fun _ ad e => by cases e; exact fun (e : b = T) => by omega))
      have HTZ := Aside0.mk (show Fr (fun k => k = gm) w (W3.setCells T 0 [.int .i64 x.nd, .int .u16 x.id, .int .i64 x.len, .int .u8 x.x0, .int .u8 x.x1, .int .u8 x.x2, .int .u8 x.x3, .int .u8 x.x4, .int .u8 x.x5, .int .u8 x.x6, .int .u8 x.x7, .bool x.rem, .int .i64 x.num]) from HF3.out.then_ hfz (fun i hi hm => by have := HTT.out; omega))
      clear h32 h33 hb3 hr hbz hfz
      go_wp2_with (fail)
      rw [cells13]
      clear f0 f1 f2 f3 f4 f5 f6 f7 f8 f9 f10 f11 f12 f13 g0 g1 g2 g3 g4 g5 g6 g7 g8 g9 g10 g11 g12 g13
      generalize W3.setCells T 0 [.int .i64 x.nd, .int .u16 x.id, .int .i64 x.len, .int .u8 x.x0, .int .u8 x.x1, .int .u8 x.x2, .int .u8 x.x3, .int .u8 x.x4, .int .u8 x.x5, .int .u8 x.x6, .int .u8 x.x7, .bool x.rem, .int .i64 x.num] = W4 at HRZ HTZ HR ⊢
      refine bodyPost_ret (rnext_res _ _ T x _ rfl rfl HR.out) rfl ?_
      exact ⟨x, .inr ⟨rfl, _, _, l, HRZ.out, .inr ⟨rfl, rfl⟩, ⟨HTZ.out, fun ad e => .inl ⟨_, rfl, by cases e; rfl⟩⟩⟩⟩
end Go.Proofs.Ytnjmohdfnicpdaa.Bus
