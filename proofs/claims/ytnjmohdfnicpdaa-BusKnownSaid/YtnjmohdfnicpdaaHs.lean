/- Waits of the bus (filled by fill.py). -/
import Derived.Test.YtnjmohdfnicpdaaHr
namespace Go.Proofs.Ytnjmohdfnicpdaa.Bus
open Go.RowKit Go.Shelf Go.Lib Go.Sort Go.Proofs.Ytnjmohdfnicpdaa.Frm Go.Proofs.Ytnjmohdfnicpdaa.Rng Go.Proofs.YtnjmohdfnicpdaaW.PrintWords Go.Proofs.YtnjmohdfnicpdaaW.PrintMore Go.Proofs.YtnjmohdfnicpdaaW.PrintLast

def Sorted (l : List Sn) : Prop := ∀ i j, i < j → j < l.length → aheadC (nth l j) (nth l i) = false
theorem sort_none (p : Option Addr) (c : Nat) (fv : Value) (w : World) : Calls Try.prog 25 #[.slice p 0 c, fv] w fun e w' => e = .returned (.tuple #[]) ∧ w' = w := AnyF.slices_SortFunc_none sortS p c fv w
theorem sort_some (gb c : Nat) (l : List Sn) (w : World) (hH : HoldsK Sn.cells 13 w gb 0 l.toArray) (hg : gb < w.heap.size) (hl : l.length ≤ 100000) :
    Calls Try.prog 25 #[.slice (some ⟨gb, 0, none⟩) l.length c, .func (.func 26) #[] #[]] w fun e w' => e = .returned (.tuple #[]) ∧ ∃ l', l'.Perm l ∧ Sorted l' ∧ WaitsAt w' (some ⟨gb, 0, none⟩) l' ∧ ∀ B, B ≤ gb → Below B w w' := by
  have h := AnyQ.slices_SortFunc sortS 13 Try.isAgg35 Try.sizeOf35 Sn.cells (fun _ => rfl) (fun x => x.cells_one) cmpC cmp_swo 26 #[] gb 0 c l.toArray w (enters_of Try.func26 (by kernel_rfl) rfl) (cmp_lays w gb l.toArray.size) hH hg (by simp; omega)
  change Calls Try.prog 25 #[.slice (some ⟨gb, 0, none⟩) l.length c, .func (.func 26) #[] #[]] w _ at h
  refine h.mono ?_
  rintro e w' ⟨rfl, d', n, os, hp, hs, rfl⟩
  obtain ⟨h1, -, h3⟩ := hp
  have h4 : d'.size = l.length := by simpa using h1
  refine ⟨rfl, d'.toList, ?_, ?_, waits_sorted hH hg h4, fun B hB => below_sort (Below.refl B w) hB hg d' os⟩
  · have h5 : d'.extract 0 l.toArray.size = d' := by rw [show l.toArray.size = d'.size by simp [h4]]; exact Array.extract_size
    rw [h5, Array.extract_size] at h3
    simpa using h3
  · intro i j hij hj
    have hj' : j < d'.size := by simpa using hj
    have h5 := hs i j (Nat.zero_le _) hij (by simpa [h4] using hj')
    rw [cmp_lt, getElem!_pos _ j hj', getElem!_pos _ i (by omega)] at h5
    rw [nth_get hj, nth_get (by simp; omega)]
    simpa using h5
/-- What Waits tells. -/
def WSaid (w : World) (l : List Sn) (e : Ending) (w' : World) : Prop := ∃ A c l', e = .returned (.slice A l'.length c) ∧ l'.Perm l ∧ Sorted l' ∧ WaitsAt w' A l' ∧ (∀ ad, A = some ad → w.heap.size ≤ ad.block) ∧ Below w.heap.size w w'
set_option maxHeartbeats 2000000 in
set_option maxRecDepth 100000 in
theorem waits_any (w : World) (g : Nat) (v : Value) (l : List Sn) (N : Int) (h : BusAt w g v l N) (hl : l.length ≤ 100000) :
    Calls Try.prog 11 #[.pointer (some ⟨g, 0, none⟩)] w (WSaid w l) := by
  obtain ⟨A, c, rfl, hlc, hC⟩ := Kd.R_reads h.row
  have z0 := h.cell0
  have hcl := Aside0.mk (clone_any A c l w hC hl)
  clear h hC
  go_enter Try.func11, Try.ntmps11
  go_wp2_with (fail)
  refine hcl.out.mono ?_
  rintro e w1 ⟨v1, rfl, hr1, hb1⟩
  clear hcl z0
  obtain ⟨A1, c1, rfl, hlc1, -⟩ := Kd.R_reads hr1
  rcases A1 with _ | ad1
  · have hl0 : l = [] := by
      obtain ⟨_, _, ⟨_, ho⟩, _⟩ := hr1
      rcases ho with ⟨_, h0⟩ | ⟨_, _, _, he, _⟩
      · exact List.length_eq_zero_iff.1 h0
      · cases he
    subst hl0
    have HB := Aside0.mk hb1
    clear hr1 hb1
    go_wp2_with (fail)
    refine (sort_none none c1 _ w1).mono ?_
    rintro e w2 ⟨rfl, hw2⟩
    have hw2 := hw2.symm
    subst hw2
    go_wp2_with (fail)
    go_ret
    exact ⟨none, c1, [], rfl, .refl _, fun i j _ hj => absurd hj (Nat.not_lt_zero _), fun h => absurd h (Nat.lt_irrefl _), fun ad e => (by cases e), HB.out⟩
  · obtain ⟨gb, hgb⟩ : ∃ gb, ad1 = ⟨gb, 0, none⟩ := by
      obtain ⟨_, _, ⟨_, ho⟩, _⟩ := hr1
      rcases ho with ⟨h0, _⟩ | ⟨gb, _, _, he, _⟩
      · cases h0
      · simp at he
        exact ⟨gb, he.1⟩
    subst hgb
    have hgw : w.heap.size ≤ gb := hr1.1 gb rfl
    have hglt : gb < w1.heap.size := by
      obtain ⟨_, _, ho, _⟩ := hr1
      exact own_lt ho gb rfl
    have hS := Aside0.mk (sort_some gb c1 l w1 (holds_row hr1) hglt hl)
    have HB := Aside0.mk hb1
    clear hr1 hb1
    obtain ⟨n, hn⟩ : ∃ n, l.length = n := ⟨_, rfl⟩
    have HN := Aside0.mk hn
    rw [hn] at hS ⊢
    clear hn
    go_wp2_with (fail)
    refine hS.out.mono ?_
    rintro e w2 ⟨rfl, l2, hp2, hs2, hw2, hb2⟩
    have HP := Aside0.mk hp2
    have HS := Aside0.mk hs2
    have HW := Aside0.mk hw2
    have HB2 := Aside0.mk (HB.out.trans (hb2 w.heap.size hgw))
    clear hS hp2 hs2 hw2 hb2
    go_wp2_with (fail)
    go_ret
    refine ⟨some ⟨gb, 0, none⟩, c1, l2, ?_, HP.out, HS.out, HW.out, fun ad e => by cases e; exact hgw, HB2.out⟩
    rw [HP.out.length_eq, HN.out]
    rfl
end Go.Proofs.Ytnjmohdfnicpdaa.Bus
