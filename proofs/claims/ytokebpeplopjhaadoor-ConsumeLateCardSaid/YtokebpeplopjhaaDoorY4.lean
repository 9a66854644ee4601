/- types.Compare: times. types.Compare, whole; types.Check. -/
import Derived.Test.YtokebpeplopjhaaDoorY3
import Derived.Deep.RegionHeld3
namespace Go.Proofs.YtokebpeplopjhaaDoor.Mp
open Go.RowKit Go.Shelf Go.Proofs.YtokebpeplopjhaaDoor.Rng Go.Proofs.YtokebpeplopjhaaDoorW.PrintWords Go.Proofs.YtokebpeplopjhaaDoorW.PrintMore Go.Proofs.YtokebpeplopjhaaDoorW.PrintLast Go.Proofs.YtokebpeplopjhaaDoor.Num

theorem _root_.Go.Proofs.YtokebpeplopjhaaDoor.Rng.Rd.drop {w : World} {ad : Addr} {zs : List Int} (h : Rd w (some ad) zs) (m : Nat)  : Rd w (some (ad.add m)) (zs.drop m) := by
  refine ⟨by have := h.1; simp; omega, fun hn => ?_⟩
  obtain ⟨ad', e, hc⟩ := h.2 (by simp at hn; omega)
  cases e
  refine ⟨_, rfl, fun j hj => ?_⟩
  have hj' : m + j < zs.length := by simp at hj; omega
  have hx := hc (m + j) hj'
  have e2 : (ad.add m).add j = ad.add (m + j) := by
    unfold Addr.add
    by_cases hm : m = 0
    · subst hm
      simp
    · by_cases h0 : j = 0
      · subst h0
        simp [hm]
      · simp [hm, h0, Nat.add_assoc]
  rw [e2, hx, List.getElem?_drop]
theorem below_made {w W : World} (h : Below w.heap.size w W) (o : Obj) : Below w.heap.size w (W.alloc o) := h.alloc h.size o
section
variable (t : Int) (ht : 0 ≤ t ∧ t < 256) (A : Option Addr) (c : Nat) (a : List Int) (B : Option Addr) (d : Nat) (b : List Int) (w : World)
set_option maxRecDepth 100000 in
set_option maxHeartbeats 8000000 in
theorem compare_5 (ht : 0 ≤ t ∧ t < 256) (h : Tbl w) (hza : Rd w A a) (hya : Byt a) (hca : a.length ≤ c) (hcc : c ≤ 9223372036854775807) (hzb : Rd w B b) (hyb : Byt b) (hcb : b.length ≤ d) (hdd : d ≤ 9223372036854775807) (hq : plainC t a = 0) (hp : plainC t b = 0) (hk : knd t = 5) :
    Calls Tryd.prog 117 #[.int .u8 t, .slice A a.length c, .slice B b.length d] w (CmpSaid w (or2 (cmp3 (num (a.drop 4)) (num (b.drop 4))) (cmp3 (num (a.take 4)) (num (b.take 4))), true)) := by
  have HPA := Aside0.mk (plain_any t ht A c a w h hza hya hca hcc)
  have HPB := Aside0.mk fun W (hW : Below w.heap.size w W) => plain_any t ht B d b W (h.below hW) (hzb.below hW) hyb hcb hdd
  have K := Aside0.mk fun W (hW : Below w.heap.size w W) => (Tbl.below h hW).at_ ht
  have HZA := Aside0.mk hza
  have HZB := Aside0.mk hzb
  clear h hza hzb
  obtain ⟨hpa0, hpa1, hpa2, -, -⟩ := plainC_0 hq
  obtain ⟨hpb0, hpb1, hpb2, -, -⟩ := plainC_0 hp
  have hsz := siz_of t
  rw [hq] at HPA
  simp only [hp] at HPB
  rw [hk] at hsz hpa2 hpb2
  simp only [hk] at K
  clear hq hp hpa0 hpb0
  have hs := hsz.2.2.2.2.1 rfl
  have hla : a.length = 6 := by omega
  have hlb : b.length = 6 := by omega
  obtain ⟨ad, rfl, -⟩ := HZA.out.at_ 0 (by omega)
  obtain ⟨be, rfl, -⟩ := HZB.out.at_ 0 (by omega)
  have hc6 : 6 ≤ c := by omega
  have hd6 : 6 ≤ d := by omega
  have HA4 := Aside0.mk fun W (hW : Below w.heap.size w W) c' => number_any (some (ad.add 4)) c' (a.drop 4) W ((HZA.out.below hW).drop 4) (fun x hx => hya x (List.mem_of_mem_drop hx)) (by simp; omega)
  have HB4 := Aside0.mk fun W (hW : Below w.heap.size w W) c' => number_any (some (be.add 4)) c' (b.drop 4) W ((HZB.out.below hW).drop 4) (fun x hx => hyb x (List.mem_of_mem_drop hx)) (by simp; omega)
  have HA0 := Aside0.mk fun W (hW : Below w.heap.size w W) c' => number_any (some ad) c' (a.take 4) W ((HZA.out.below hW).take 4) (fun x hx => hya x (List.mem_of_mem_take hx)) (by simp; omega)
  have HB0 := Aside0.mk fun W (hW : Below w.heap.size w W) c' => number_any (some be) c' (b.take 4) W ((HZB.out.below hW).take 4) (fun x hx => hyb x (List.mem_of_mem_take hx)) (by simp; omega)
  have l1 : (a.drop 4).length = 2 := by simp; omega
  have l2 : (b.drop 4).length = 2 := by simp; omega
  have l3 : (a.take 4).length = 4 := by simp; omega
  have l4 : (b.take 4).length = 4 := by simp; omega
  rw [l1] at HA4
  rw [l2] at HB4
  rw [l3] at HA0
  rw [l4] at HB0
  simp only [show ad.add 4 = ⟨ad.block, ad.off + 4, none⟩ from rfl] at HA4
  simp only [show be.add 4 = ⟨be.block, be.off + 4, none⟩ from rfl] at HB4
  have hc4 : ¬ c = 4 := by omega
  have hd4 : ¬ d = 4 := by omega
  have hci : (4 : Int) ≤ c := by omega
  have hdi : (4 : Int) ≤ d := by omega
  clear l1 l2 l3 l4
  generalize num (a.drop 4) = a4 at *
  generalize num (b.drop 4) = b4 at *
  generalize num (a.take 4) = a0 at *
  generalize num (b.take 4) = b0 at *
  rw [hla] at HPA ⊢
  rw [hlb] at HPB ⊢
  clear hsz hpa2 hpb2 hs hca hcb hpa1 hpb1
  go_enter Tryd.func117, Tryd.ntmps117
  go_wp2_with (first
    | (go_at_call 115; refine HPA.out.mono ?_; rintro e w1 ⟨rfl, hb1⟩; have HB1 := Aside0.mk hb1; clear hb1 HPA)
    | (go_at_call 115; refine (HPB.out _ HB1.out).mono ?_; rintro e w2 ⟨rfl, hb2⟩; have HB2 := Aside0.mk (HB1.out.trans (hb2.mono HB1.out.size)); clear hb2 HPB; obtain ⟨bm, hcell, hl⟩ := K.out _ HB2.out; have hf0 := fun k n => (fields_form k n).1))
  have hS0 : Below w.heap.size w w2 := HB2.out
  clear hla hlb
  go_region_held3 (fun X => Below w.heap.size w X) (first | assumption | exact below_step (by assumption) (by assumption) | exact below_drew (by assumption) | exact below_made (by assumption) _)
    (first
      | (go_at_call 130; (with_reducible refine (HA4.out _ (by assumption) _).mono ?_); rintro e w3 ⟨rfl, hb3⟩)
      | (go_at_call 130; (with_reducible refine (HB4.out _ (by assumption) _).mono ?_); rintro e w4 ⟨rfl, hb4⟩)
      | (go_at_call 130; (with_reducible refine (HA0.out _ (by assumption) _).mono ?_); rintro e w5 ⟨rfl, hb5⟩)
      | (go_at_call 130; (with_reducible refine (HB0.out _ (by assumption) _).mono ?_); rintro e w6 ⟨rfl, hb6⟩)
      | (go_at_call 138; refine (compare_u _ _ _).mono ?_; rintro e w7 ⟨rfl, rfl⟩)
      | (go_at_call 137; refine (or_any _ _ _ _ _ (heap_alloc_new _ _)).mono ?_; rintro e w7 ⟨rfl, rfl⟩))
  all_goals
    go_wp2
    go_ret2
    first | exact ⟨rfl, by assumption⟩ | exact ⟨rfl, below_made (by assumption) _⟩
end
end Go.Proofs.YtokebpeplopjhaaDoor.Mp
namespace Go.Proofs.YtokebpeplopjhaaDoor.Mp
open Go.RowKit Go.Shelf Go.Proofs.YtokebpeplopjhaaDoor.Rng Go.Proofs.YtokebpeplopjhaaDoorW.PrintWords Go.Proofs.YtokebpeplopjhaaDoorW.PrintMore Go.Proofs.YtokebpeplopjhaaDoorW.PrintLast Go.Proofs.YtokebpeplopjhaaDoor.Num

theorem compare_any (t : Int) (ht : 0 ≤ t ∧ t < 256) (A : Option Addr) (c : Nat) (a : List Int) (B : Option Addr) (d : Nat) (b : List Int) (w : World)
    (h : Tbl w) (hza : Rd w A a) (hya : Byt a) (hca : a.length ≤ c) (hcc : c ≤ 9223372036854775807) (hzb : Rd w B b) (hyb : Byt b) (hcb : b.length ≤ d) (hdd : d ≤ 9223372036854775807) :
    Calls Tryd.prog 117 #[.int .u8 t, .slice A a.length c, .slice B b.length d] w (CmpSaid w (cmpC t a b)) := by
  unfold cmpC
  by_cases hq : plainC t a = 0
  · by_cases hp : plainC t b = 0
    · rw [if_neg (by simp [hq, hp])]
      rcases knd_cases t with hk | hk | hk | hk | hk | hk | hk
      · exact absurd hk (plainC_0 hq).1
      · rw [if_neg (by omega), if_neg (by omega), if_neg (by omega), if_neg (by omega)]
        exact compare_1 t A c a B d b w ht h hza hya hca hcc hzb hyb hcb hdd hq hp hk
      · rw [if_neg (by omega), if_pos hk]
        exact compare_2 t A c a B d b w ht h hza hya hca hcc hzb hyb hcb hdd hq hp hk
      · rw [if_neg (by omega), if_neg (by omega), if_neg (by omega), if_neg (by omega)]
        exact compare_3 t A c a B d b w ht h hza hya hca hcc hzb hyb hcb hdd hq hp hk
      · rw [if_neg (by omega), if_neg (by omega), if_pos hk]
        unfold fltC
        by_cases hna : nanF a
        · rw [if_pos (.inl hna)]
          exact compare_4a t A c a B d b w ht h hza hya hca hcc hzb hyb hcb hdd hq hp hk hna
        · by_cases hnb : nanF b
          · rw [if_pos (.inr hnb)]
            exact compare_4b t A c a B d b w ht h hza hya hca hcc hzb hyb hcb hdd hq hp hk hna hnb
          · rw [if_neg (by simp [hna, hnb])]
            unfold fcmp
            by_cases hz : ordF (bitF a) 0 = some .eq
            · by_cases hz2 : ordF (bitF b) 0 = some .eq
              · rw [if_pos ⟨hz, hz2⟩]
                exact compare_4z t A c a B d b w ht h hza hya hca hcc hzb hyb hcb hdd hq hp hk hna hnb hz hz2
              · rw [if_neg (fun e => hz2 e.2)]
                exact compare_4y t A c a B d b w ht h hza hya hca hcc hzb hyb hcb hdd hq hp hk hna hnb hz hz2
            · rw [if_neg (fun e => hz e.1)]
              exact compare_4x t A c a B d b w ht h hza hya hca hcc hzb hyb hcb hdd hq hp hk hna hnb hz
      · rw [if_neg (by omega), if_neg (by omega), if_neg (by omega), if_pos hk]
        exact compare_5 t A c a B d b w ht h hza hya hca hcc hzb hyb hcb hdd hq hp hk
      · rw [if_pos hk]
        exact compare_6 t A c a B d b w ht h hza hya hca hcc hzb hyb hcb hdd hq hp hk
    · rw [if_pos (.inr hp)]
      exact compare_pb t A c a B d b w ht h hza hya hca hcc hzb hyb hcb hdd hq hp
  · rw [if_pos (.inl hq)]
    exact compare_pa t A c a B d b w ht h hza hya hca hcc hzb hyb hcb hdd hq

/-- Is it a bound? -/
def bndC (t : Int) (x : List Int) : Prop := 0 < x.length ∧ (cmpC t x x).2 = true
instance (t : Int) (x : List Int) : Decidable (bndC t x) := by unfold bndC; infer_instance
/-- Why bytes are no value within bounds. -/
def chkC (t : Int) (b low high : List Int) : Int :=
  if plainC t b ≠ 0 then plainC t b else if (cmpC t b b).2 = false ∧ (bndC t low ∨ bndC t high) then 0x06090030
  else if bndC t high ∧ 0 < (cmpC t b high).1 then 0x06090031 else if bndC t low ∧ (cmpC t b low).1 < 0 then 0x06090032 else 0
theorem bnd_pos {t : Int} {x : List Int} (h : 0 < x.length) : decide (bndC t x) = (cmpC t x x).2 := by
  unfold bndC
  simp [h]
theorem bnd_nil {t : Int} {x : List Int} (h : ¬ 0 < x.length) : decide (bndC t x) = false := by
  unfold bndC
  simp [h]
set_option maxRecDepth 100000 in
set_option maxHeartbeats 1000000 in
theorem bound_any (t : Int) (ht : 0 ≤ t ∧ t < 256) (g : Nat) (A : Option Addr) (c : Nat) (a : List Int) (w : World) (h : Tbl w) (hg : w.cell? ⟨g, 0, none⟩ = some (.int .u8 t)) (hza : Rd w A a) (hya : Byt a) (hca : a.length ≤ c) (hcc : c ≤ 9223372036854775807) :
    Calls Tryd.prog 116 #[.slice A a.length c, .pointer (some ⟨g, 0, none⟩)] w fun e w' => e = .returned (.bool (decide (bndC t a))) ∧ Below w.heap.size w w' := by
  have HC := Aside0.mk (compare_any t ht A c a A c a w h hza hya hca hcc hza hya hca hcc)
  by_cases hn : 0 < a.length
  · rw [bnd_pos hn]
    have hn2 : decide ((0 : Int) < (a.length : Int)) = true := by simpa using hn
    obtain ⟨v, hv⟩ : ∃ v, cmpC t a a = v := ⟨_, rfl⟩
    rw [hv] at HC ⊢
    obtain ⟨v1, v2⟩ := v
    generalize a.length = n at *
    clear hv hza hya h
    go_enter Tryd.func116, Tryd.ntmps116
    go_wp2_with (go_at_call 117; refine HC.out.mono ?_; rintro e w1 ⟨rfl, hb1⟩; have HB1 := Aside0.mk hb1; clear hb1)
    go_ret
    exact ⟨rfl, HB1.out⟩
  · rw [bnd_nil hn]
    obtain ⟨v, hv⟩ : ∃ v, cmpC t a a = v := ⟨_, rfl⟩
    rw [hv] at HC
    obtain ⟨v1, v2⟩ := v
    generalize a.length = n at *
    clear hv hza hya h
    obtain rfl : n = 0 := by omega
    go_enter Tryd.func116, Tryd.ntmps116
    go_wp2_with (go_at_call 117; refine HC.out.mono ?_; rintro e w1 ⟨rfl, hb1⟩; have HB1 := Aside0.mk hb1; clear hb1)
    go_ret
    exact ⟨rfl, HB1.out⟩
end Go.Proofs.YtokebpeplopjhaaDoor.Mp
