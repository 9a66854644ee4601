/- types.Compare, whole; types.Check. -/
import Derived.Test.YtcgcghldgomelaaGreatDoorTc5
namespace Go.Proofs.YtcgcghldgomelaaGreatDoor.Mp
open Go.RowKit Go.Shelf Go.Proofs.YtcgcghldgomelaaGreatDoor.Rng Go.Proofs.YtcgcghldgomelaaGreatDoorW.PrintWords Go.Proofs.YtcgcghldgomelaaGreatDoorW.PrintMore Go.Proofs.YtcgcghldgomelaaGreatDoorW.PrintLast Go.Proofs.YtcgcghldgomelaaGreatDoor.Num

theorem compare_any (t : Int) (ht : 0 ≤ t ∧ t < 256) (A : Option Addr) (c : Nat) (a : List Int) (B : Option Addr) (d : Nat) (b : List Int) (w : World)
    (h : Tbl w) (hza : Rd w A a) (hya : Byt a) (hca : a.length ≤ c) (hcc : c ≤ 9223372036854775807) (hzb : Rd w B b) (hyb : Byt b) (hcb : b.length ≤ d) (hdd : d ≤ 9223372036854775807) :
    Calls Tryz.prog 18 #[.int .u8 t, .slice A a.length c, .slice B b.length d] w (CmpSaid w (cmpC t a b)) := by
  unfold cmpC
  by_cases hq : plainC t a = 0
  · by_cases hp : plainC t b = 0
    · rw [if_neg (by simp [hq, hp])]
      rcases knd_cases t with hk | hk | hk | hk | hk | hk | hk
      · exact absurd hk (plainC_0 hq).1
      · rw [if_neg (by omega), if_neg (by omega), if_neg (by omega), if_neg (by omega)]
        exact compare_1 t A c a B d b w ht h hza hya hca hcc hzb hyb hcb hdd hq hp hk
      · rw [if_neg (by omega), if_pos hk]
        exact compare_2 t A c a B d b w ht h hza hya hca hcc hzb hyb hcb hdd hq hp hk
      · rw [if_neg (by omega), if_neg (by omega), if_neg (by omega), if_neg (by omega)]
        exact compare_3 t A c a B d b w ht h hza hya hca hcc hzb hyb hcb hdd hq hp hk
      · rw [if_neg (by omega), if_neg (by omega), if_pos hk]
        unfold fltC
        by_cases hna : nanF a
        · rw [if_pos (.inl hna)]
          exact compare_4a t A c a B d b w ht h hza hya hca hcc hzb hyb hcb hdd hq hp hk hna
        · by_cases hnb : nanF b
          · rw [if_pos (.inr hnb)]
            exact compare_4b t A c a B d b w ht h hza hya hca hcc hzb hyb hcb hdd hq hp hk hna hnb
          · rw [if_neg (by simp [hna, hnb])]
            unfold fcmp
            by_cases hz : ordF (bitF a) 0 = some .eq
            · by_cases hz2 : ordF (bitF b) 0 = some .eq
              · rw [if_pos ⟨hz, hz2⟩]
                exact compare_4z t A c a B d b w ht h hza hya hca hcc hzb hyb hcb hdd hq hp hk hna hnb hz hz2
              · rw [if_neg (fun e => hz2 e.2)]
                exact compare_4y t A c a B d b w ht h hza hya hca hcc hzb hyb hcb hdd hq hp hk hna hnb hz hz2
            · rw [if_neg (fun e => hz e.1)]
              exact compare_4x t A c a B d b w ht h hza hya hca hcc hzb hyb hcb hdd hq hp hk hna hnb hz
      · rw [if_neg (by omega), if_neg (by omega), if_neg (by omega), if_pos hk]
        exact compare_5 t A c a B d b w ht h hza hya hca hcc hzb hyb hcb hdd hq hp hk
      · rw [if_pos hk]
        exact compare_6 t A c a B d b w ht h hza hya hca hcc hzb hyb hcb hdd hq hp hk
    · rw [if_pos (.inr hp)]
      exact compare_pb t A c a B d b w ht h hza hya hca hcc hzb hyb hcb hdd hq hp
  · rw [if_pos (.inl hq)]
    exact compare_pa t A c a B d b w ht h hza hya hca hcc hzb hyb hcb hdd hq

/-- Is it a bound? -/
def bndC (t : Int) (x : List Int) : Prop := 0 < x.length ∧ (cmpC t x x).2 = true
instance (t : Int) (x : List Int) : Decidable (bndC t x) := by unfold bndC; infer_instance
/-- Why bytes are no value within bounds. -/
def chkC (t : Int) (b low high : List Int) : Int :=
  if plainC t b ≠ 0 then plainC t b else if (cmpC t b b).2 = false ∧ (bndC t low ∨ bndC t high) then 0x06090030
  else if bndC t high ∧ 0 < (cmpC t b high).1 then 0x06090031 else if bndC t low ∧ (cmpC t b low).1 < 0 then 0x06090032 else 0
theorem bnd_pos {t : Int} {x : List Int} (h : 0 < x.length) : decide (bndC t x) = (cmpC t x x).2 := by
  unfold bndC
  simp [h]
theorem bnd_nil {t : Int} {x : List Int} (h : ¬ 0 < x.length) : decide (bndC t x) = false := by
  unfold bndC
  simp [h]
set_option maxRecDepth 100000 in
set_option maxHeartbeats 1000000 in
theorem bound_any (t : Int) (ht : 0 ≤ t ∧ t < 256) (g : Nat) (A : Option Addr) (c : Nat) (a : List Int) (w : World) (h : Tbl w) (hg : w.cell? ⟨g, 0, none⟩ = some (.int .u8 t)) (hza : Rd w A a) (hya : Byt a) (hca : a.length ≤ c) (hcc : c ≤ 9223372036854775807) :
    Calls Tryz.prog 36 #[.slice A a.length c, .pointer (some ⟨g, 0, none⟩)] w fun e w' => e = .returned (.bool (decide (bndC t a))) ∧ Below w.heap.size w w' := by
  have HC := Aside0.mk (compare_any t ht A c a A c a w h hza hya hca hcc hza hya hca hcc)
  by_cases hn : 0 < a.length
  · rw [bnd_pos hn]
    have hn2 : decide ((0 : Int) < (a.length : Int)) = true := by simpa using hn
    obtain ⟨v, hv⟩ : ∃ v, cmpC t a a = v := ⟨_, rfl⟩
    rw [hv] at HC ⊢
    obtain ⟨v1, v2⟩ := v
    generalize a.length = n at *
    clear hv hza hya h
    go_enter Tryz.func36, Tryz.ntmps36
    go_wp2_with (go_at_call 18; refine HC.out.mono ?_; rintro e w1 ⟨rfl, hb1⟩; have HB1 := Aside0.mk hb1; clear hb1)
    go_ret
    exact ⟨rfl, HB1.out⟩
  · rw [bnd_nil hn]
    obtain ⟨v, hv⟩ : ∃ v, cmpC t a a = v := ⟨_, rfl⟩
    rw [hv] at HC
    obtain ⟨v1, v2⟩ := v
    generalize a.length = n at *
    clear hv hza hya h
    obtain rfl : n = 0 := by omega
    go_enter Tryz.func36, Tryz.ntmps36
    go_wp2_with (go_at_call 18; refine HC.out.mono ?_; rintro e w1 ⟨rfl, hb1⟩; have HB1 := Aside0.mk hb1; clear hb1)
    go_ret
    exact ⟨rfl, HB1.out⟩
end Go.Proofs.YtcgcghldgomelaaGreatDoor.Mp
