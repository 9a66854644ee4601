/- The closure of Gone; slices.IndexFunc (filled by fill.py). -/
import Derived.Test.YtnjmohdfnicpdaaHl
namespace Go.Proofs.Ytnjmohdfnicpdaa.Bus
open Go.RowKit Go.Shelf Go.Lib Go.Sort Go.Proofs.Ytnjmohdfnicpdaa.Frm Go.Proofs.Ytnjmohdfnicpdaa.Rng Go.Proofs.YtnjmohdfnicpdaaW.PrintWords Go.Proofs.YtnjmohdfnicpdaaW.PrintMore Go.Proofs.YtnjmohdfnicpdaaW.PrintLast

set_option maxHeartbeats 1000000 in
set_option maxRecDepth 100000 in
theorem gone1_any (w : World) (nb : Nat) (x : Sn) (nd : Int) (h : w.cell? ⟨nb, 0, none⟩ = some (.int .i64 nd)) :
    Calls Try.prog 32 #[.agg #[.int .i64 x.nd, .int .u16 x.id, .int .i64 x.len, .int .u8 x.x0, .int .u8 x.x1, .int .u8 x.x2, .int .u8 x.x3, .int .u8 x.x4, .int .u8 x.x5, .int .u8 x.x6, .int .u8 x.x7, .bool x.rem, .int .i64 x.num], .pointer (some ⟨nb, 0, none⟩)] w fun e w' => e = .returned (.bool (decide (x.nd = nd))) ∧ Below w.heap.size w w' := by
  have hb := below_alloc (Below.refl w.heap.size w) (.cells #[.int .i64 x.nd, .int .u16 x.id, .int .i64 x.len, .int .u8 x.x0, .int .u8 x.x1, .int .u8 x.x2, .int .u8 x.x3, .int .u8 x.x4, .int .u8 x.x5, .int .u8 x.x6, .int .u8 x.x7, .bool x.rem, .int .i64 x.num] 35)
  have hb1 := pw_cell_below hb h
  have hn := heap_alloc_new w (.cells #[.int .i64 x.nd, .int .u16 x.id, .int .i64 x.len, .int .u8 x.x0, .int .u8 x.x1, .int .u8 x.x2, .int .u8 x.x3, .int .u8 x.x4, .int .u8 x.x5, .int .u8 x.x6, .int .u8 x.x7, .bool x.rem, .int .i64 x.num] 35)
  obtain ⟨f0, f1, f2, f3, f4, f5, f6, f7, f8, f9, f10, f11, f12, f13⟩ := sn_at (s := x) hn
  have HB := Aside0.mk hb
  clear hb hn f1 f2 f3 f4 f5 f6 f7 f8 f9 f10 f11 f12 f13
  obtain ⟨q, hq⟩ : ∃ q, (x.nd == nd) = q := ⟨_, rfl⟩
  have HQ := Aside0.mk (show decide (x.nd = nd) = q from hq)
  go_enter Try.func32, Try.ntmps32
  go_wp2_with (fail)
  go_ret
  exact ⟨by rw [HQ.out]; rfl, HB.out⟩
set_option maxHeartbeats 2000000 in
set_option maxRecDepth 100000 in
theorem index_any (w : World) (g : Nat) (A : Option Addr) (c : Nat) (l : List Sn) (N : Int) (nb : Nat) (nd : Int) (h : BusAt w g (.slice A l.length c) l N) (hl : l.length ≤ 100000) (hnb : w.cell? ⟨nb, 0, none⟩ = some (.int .i64 nd)) (r : Int)
    (hr : (r = -1 ∧ ∀ x ∈ l, x.nd ≠ nd) ∨ ∃ k : Nat, r = k ∧ k < l.length ∧ (nth l k).nd = nd ∧ ∀ j, j < k → (nth l j).nd ≠ nd) :
    Calls Try.prog 41 #[.slice A l.length c, .func (.func 32) #[] #[.pointer (some ⟨nb, 0, none⟩)]] w fun e w' => e = .returned (.int .i64 r) ∧ Below w.heap.size w w' := by
  have HB := Aside0.mk h
  have HN := Aside0.mk hnb
  have HR := Aside0.mk hr
  obtain ⟨n, hn⟩ : ∃ n, l.length = n := ⟨_, rfl⟩
  have HL := Aside0.mk hn
  rw [hn] at hl HB
  rw [hn]
  clear h hnb hr hn
  go_enter Try.func41, Try.ntmps41
  go_wp2_with (fail)
  go_loopw [8] (fun i wr => ∃ (k : Nat), i = .int .i64 k ∧ k ≤ n ∧ Aside0 (∀ j, j < k → (nth l j).nd ≠ nd) ∧ Aside0 (Below w.heap.size w wr)) (fun i _ => n - (intOf i).toNat)
  case atStart => exact ⟨0, rfl, Nat.zero_le _, ⟨fun j hj => by omega⟩, ⟨Below.refl _ _⟩⟩
  case round =>
    obtain ⟨k, rfl, hk, HJ, HW⟩ := hrel
    by_cases hkn : k < n
    · have hbr := HB.out.fr (Fr.of_below (M := fun _ => False) HW.out) (fun h => h) (fun _ _ h => h)
      obtain ⟨gb, c', cur, he, -⟩ := hbr.own (by rw [HL.out]; omega)
      obtain ⟨rfl, -⟩ : A = some ⟨gb, 0, none⟩ ∧ True := by
        simp at he
        exact ⟨he.1, trivial⟩
      clear he
      obtain ⟨x, hx⟩ : ∃ x, nth l k = x := ⟨_, rfl⟩
      obtain ⟨f0, f1, f2, f3, f4, f5, f6, f7, f8, f9, f10, f11, f12⟩ := hx ▸ hbr.cells (i := k) (by rw [HL.out]; exact hkn)
      have HX := Aside0.mk hx
      clear hx hbr
      go_wp2_with (fail)
      refine (gone1_any wr nb x nd (pw_cell_below HW.out HN.out)).mono ?_
      rintro e w1 ⟨rfl, hb⟩
      have HW1 := Aside0.mk (HW.out.trans (hb.mono HW.out.size))
      clear hb f0 f1 f2 f3 f4 f5 f6 f7 f8 f9 f10 f11 f12
      by_cases hq : x.nd = nd
      · have hrr : r = k := by
          rcases HR.out with ⟨h1, h2⟩ | ⟨j, rfl, h2, h3, h4⟩
          · refine absurd hq ?_
            rw [← HX.out, nth_get (by rw [HL.out]; exact hkn)]
            exact h2 _ (List.getElem_mem _)
          · rcases Nat.lt_trichotomy j k with h5 | h5 | h5
            · exact absurd h3 (HJ.out j h5)
            · rw [h5]
            · exact absurd (HX.out ▸ hq) (h4 k h5)
        subst hrr
        have hd : decide (x.nd = nd) = true := by simp [hq]
        rw [hd]
        go_wp2_with (fail)
        go_ret
        exact ⟨rfl, HW1.out⟩
      · have hd : decide (x.nd = nd) = false := by simp [hq]
        rw [hd]
        have HJ1 := Aside0.mk (show ∀ j, j < k + 1 → (nth l j).nd ≠ nd from fun j hj => by
          by_cases h : j = k
          · rw [h, HX.out]; exact hq
          · exact HJ.out j (by omega))
        go_wp2_with (fail)
        go_roundw
        case rel => exact ⟨k + 1, by go_num, by omega, HJ1, HW1⟩
        case measure => simp [intOf]; omega
    · obtain rfl : k = n := by omega
      have hrr : r = -1 := by
        rcases HR.out with ⟨h1, _⟩ | ⟨j, rfl, h2, h3, _⟩
        · exact h1
        · exact absurd h3 (HJ.out j (by rw [← HL.out]; exact h2))
      subst hrr
      go_wp2_with (fail)
      go_ret
      exact ⟨rfl, HW.out⟩
end Go.Proofs.Ytnjmohdfnicpdaa.Bus
