/- container/heap's up, of the bus. -/
import Derived.Test.YtnjmohdfnicpdaaHf
namespace Go.Proofs.Ytnjmohdfnicpdaa.Bus
open Go.RowKit Go.Shelf Go.Lib Go.Sort Go.Proofs.Ytnjmohdfnicpdaa.Frm Go.Proofs.Ytnjmohdfnicpdaa.Rng Go.Proofs.YtnjmohdfnicpdaaW.PrintWords Go.Proofs.YtnjmohdfnicpdaaW.PrintMore Go.Proofs.YtnjmohdfnicpdaaW.PrintLast

theorem m_less (g : Nat) (w : World) : (method 229 66 (.pointer (some ⟨g, 0, none⟩)) "Less").run Try.prog w = .ok (75, .pointer (some ⟨g, 0, none⟩)) w := by kernel_rfl
theorem m_swap (g : Nat) (w : World) : (method 229 66 (.pointer (some ⟨g, 0, none⟩)) "Swap").run Try.prog w = .ok (78, .pointer (some ⟨g, 0, none⟩)) w := by kernel_rfl
theorem m_len (g : Nat) (w : World) : (method 229 66 (.pointer (some ⟨g, 0, none⟩)) "Len").run Try.prog w = .ok (21, .pointer (some ⟨g, 0, none⟩)) w := by kernel_rfl
theorem m_push (g : Nat) (w : World) : (method 229 66 (.pointer (some ⟨g, 0, none⟩)) "Push").run Try.prog w = .ok (77, .pointer (some ⟨g, 0, none⟩)) w := by kernel_rfl
theorem m_pop (g : Nat) (w : World) : (method 229 66 (.pointer (some ⟨g, 0, none⟩)) "Pop").run Try.prog w = .ok (76, .pointer (some ⟨g, 0, none⟩)) w := by kernel_rfl

set_option maxHeartbeats 4000000 in
set_option maxRecDepth 100000 in
theorem up_any (w : World) (g : Nat) (v : Value) (l : List Sn) (N : Int) (j : Nat) (h : BusAt w g v l N) (hU : HpU l j) (hj : j < l.length) (hl : l.length ≤ 100000) :
    Calls Try.prog 34 #[.iface 66 (.pointer (some ⟨g, 0, none⟩)), .int .i64 j] w fun e w' => e = .returned (.tuple #[]) ∧ ∃ l', BusAt w' g v l' N ∧ l'.Perm l ∧ Hp l' l'.length ∧ Turn g v v w w' := by
  have mL := m_less g
  have mS := m_swap g
  go_enter Try.func34, Try.ntmps34
  go_wp2_with (fail)
  go_loopw [1] (fun i wr => ∃ (k : Nat) (l1 : List Sn), i = .int .i64 k ∧ Aside0 (BusAt wr g v l1 N) ∧ Aside0 (HpU l1 k) ∧ Aside0 (l1.Perm l) ∧ k < l1.length ∧ l1.length ≤ 100000 ∧ Aside0 (Turn g v v w wr)) (fun i _ => (intOf i).toNat)
  case atStart => exact ⟨j, l, rfl, ⟨h⟩, ⟨hU⟩, ⟨.refl _⟩, hj, hl, ⟨Turn.refl _ _ _⟩⟩
  case round =>
    obtain ⟨k, l1, rfl, HB, HU, HP, hk, hl1, HT⟩ := hrel
    by_cases h0 : k = 0
    · subst h0
      go_wp2_with (fail)
      go_end0
      exact ⟨rfl, l1, HB.out, HP.out, HU.out.done (.inl rfl), HT.out⟩
    · obtain ⟨p, hp⟩ : ∃ p, par k = p := ⟨_, rfl⟩
      have hpi : ((k : Int) - 1) / 2 = (p : Int) := by rw [← hp]; unfold par; omega
      have hpk : p < k := by rw [← hp]; exact par_lt (by omega)
      have hne : ((p : Int) == (k : Int)) = false := by rw [beq_eq_false_iff_ne]; omega
      have HP0 := Aside0.mk hp
      have K0 := Aside0.mk (show 0 < k by omega)
      clear hp
      go_wp2_with (fail)
      refine (less_any wr g v l1 N k p HB.out hk (by omega) hl1).mono ?_
      rintro e w1 ⟨rfl, nd, os, hw1⟩
      have HB1 := Aside0.mk (hw1 ▸ HB.out.grown nd os)
      have HT1 := Aside0.mk (HT.out.trans (hw1 ▸ Turn.grow g v wr nd os))
      clear hw1
      obtain ⟨q, hq⟩ : ∃ q, aheadC (nth l1 k) (nth l1 p) = q := ⟨_, rfl⟩
      rw [hq]
      have HQ := Aside0.mk hq
      clear hq
      rcases q with _ | _
      · go_wp2_with (fail)
        go_end0
        exact ⟨rfl, l1, HB1.out, HP.out, HU.out.done (.inr (by rw [HP0.out]; exact HQ.out)), HT1.out⟩
      · go_wp2_with (fail)
        refine (swap_any w1 g v l1 N p k HB1.out (by omega) hk hl1).mono ?_
        rintro e w2 ⟨rfl, hb2, hf2⟩
        have HB2 := Aside0.mk hb2
        have HT2 := Aside0.mk (HT1.out.trans (Turn.of_fr hf2))
        have HU2 := Aside0.mk (HP0.out ▸ HU.out.step K0.out hk (HP0.out ▸ HQ.out))
        have HP2 := Aside0.mk ((swL_perm (show p < l1.length by omega) hk).trans HP.out)
        have hk2 : p < (swL l1 p k).length := by rw [swL_len]; omega
        have hl2 : (swL l1 p k).length ≤ 100000 := by rw [swL_len]; exact hl1
        clear hb2 hf2
        go_wp2_with (fail)
        go_roundw
        case rel => exact ⟨p, swL l1 p k, rfl, HB2, HU2, HP2, hk2, hl2, HT2⟩
        case measure => simp [intOf]; omega
end Go.Proofs.Ytnjmohdfnicpdaa.Bus
