/- types.Compare: the order of two values. -/
import Derived.Test.YtcgcghldgomelaaGreatDoorTor
namespace Go.Proofs.YtcgcghldgomelaaGreatDoor.Mp
open Go.RowKit Go.Shelf Go.Proofs.YtcgcghldgomelaaGreatDoor.Rng Go.Proofs.YtcgcghldgomelaaGreatDoorW.PrintWords Go.Proofs.YtcgcghldgomelaaGreatDoorW.PrintMore Go.Proofs.YtcgcghldgomelaaGreatDoorW.PrintLast Go.Proofs.YtcgcghldgomelaaGreatDoor.Num

/-- The order of two values; is there one? -/
def cmpC (t : Int) (a b : List Int) : Int × Bool :=
  if plainC t a ≠ 0 ∨ plainC t b ≠ 0 then (0, false) else if knd t = 6 then (0, false) else if knd t = 2 then (cmp3 (wholeC a) (wholeC b), true)
  else if knd t = 4 then fltC a b else if knd t = 5 then (or2 (cmp3 (num (a.drop 4)) (num (b.drop 4))) (cmp3 (num (a.take 4)) (num (b.take 4))), true)
  else (cmp3 (num a) (num b), true)
section
variable (t : Int) (ht : 0 ≤ t ∧ t < 256) (A : Option Addr) (c : Nat) (a : List Int) (B : Option Addr) (d : Nat) (b : List Int) (w : World)
/-- What Compare tells. -/
def CmpSaid (w : World) (v : Int × Bool) (e : Ending) (w' : World) : Prop := e = .returned (.tuple #[.int .i64 v.1, .bool v.2]) ∧ Below w.heap.size w w'
set_option maxRecDepth 100000 in
set_option maxHeartbeats 2000000 in
theorem compare_pa (ht : 0 ≤ t ∧ t < 256) (h : Tbl w) (hza : Rd w A a) (hya : Byt a) (hca : a.length ≤ c) (hcc : c ≤ 9223372036854775807) (hzb : Rd w B b) (hyb : Byt b) (hcb : b.length ≤ d) (hdd : d ≤ 9223372036854775807) (hp : plainC t a ≠ 0) :
    Calls Tryz.prog 18 #[.int .u8 t, .slice A a.length c, .slice B b.length d] w (CmpSaid w (0, false)) := by
  have HPA := Aside0.mk (plain_any t ht A c a w h hza hya hca hcc)
  have HPB := Aside0.mk fun W (hW : Below w.heap.size w W) => plain_any t ht B d b W (h.below hW) (hzb.below hW) hyb hcb hdd
  have K := Aside0.mk fun W (hW : Below w.heap.size w W) => (Tbl.below h hW).at_ ht
  have HZA := Aside0.mk hza
  have HZB := Aside0.mk hzb
  clear h hza hzb
  obtain ⟨r, hr⟩ : ∃ r, plainC t a = r := ⟨_, rfl⟩
  rw [hr] at hp HPA
  have hp1 : (r == 0) = false := by simpa using hp
  have hp2 : (r != 0) = true := by simpa using hp
  clear hr hp HPB
  go_enter Tryz.func18, Tryz.ntmps18
  go_wp2_with (first
    | (go_at_call 35; refine HPA.out.mono ?_; rintro e w1 ⟨rfl, hb1⟩; have HB1 := Aside0.mk hb1; clear hb1 HPA)
    | (go_at_call 35; refine (HPB.out _ HB1.out).mono ?_; rintro e w2 ⟨rfl, hb2⟩; have HB2 := Aside0.mk (HB1.out.trans (hb2.mono HB1.out.size)); clear hb2 HPB; obtain ⟨bm, hcell, hl⟩ := K.out _ HB2.out; have hf0 := fun k n => (fields_form k n).1))
  go_ret2
  exact ⟨rfl, HB1.out⟩
set_option maxRecDepth 100000 in
set_option maxHeartbeats 2000000 in
theorem compare_pb (ht : 0 ≤ t ∧ t < 256) (h : Tbl w) (hza : Rd w A a) (hya : Byt a) (hca : a.length ≤ c) (hcc : c ≤ 9223372036854775807) (hzb : Rd w B b) (hyb : Byt b) (hcb : b.length ≤ d) (hdd : d ≤ 9223372036854775807) (hq : plainC t a = 0) (hp : plainC t b ≠ 0) :
    Calls Tryz.prog 18 #[.int .u8 t, .slice A a.length c, .slice B b.length d] w (CmpSaid w (0, false)) := by
  have HPA := Aside0.mk (plain_any t ht A c a w h hza hya hca hcc)
  have HPB := Aside0.mk fun W (hW : Below w.heap.size w W) => plain_any t ht B d b W (h.below hW) (hzb.below hW) hyb hcb hdd
  have K := Aside0.mk fun W (hW : Below w.heap.size w W) => (Tbl.below h hW).at_ ht
  have HZA := Aside0.mk hza
  have HZB := Aside0.mk hzb
  clear h hza hzb
  obtain ⟨r, hr⟩ : ∃ r, plainC t b = r := ⟨_, rfl⟩
  rw [hq] at HPA
  simp only [hr] at HPB
  rw [hr] at hp
  have hp1 : (r == 0) = false := by simpa using hp
  have hp2 : (r != 0) = true := by simpa using hp
  clear hr hp
  go_enter Tryz.func18, Tryz.ntmps18
  go_wp2_with (first
    | (go_at_call 35; refine HPA.out.mono ?_; rintro e w1 ⟨rfl, hb1⟩; have HB1 := Aside0.mk hb1; clear hb1 HPA)
    | (go_at_call 35; refine (HPB.out _ HB1.out).mono ?_; rintro e w2 ⟨rfl, hb2⟩; have HB2 := Aside0.mk (HB1.out.trans (hb2.mono HB1.out.size)); clear hb2 HPB; obtain ⟨bm, hcell, hl⟩ := K.out _ HB2.out; have hf0 := fun k n => (fields_form k n).1))
  go_ret2
  exact ⟨rfl, HB2.out⟩
set_option maxRecDepth 100000 in
set_option maxHeartbeats 2000000 in
theorem compare_6 (ht : 0 ≤ t ∧ t < 256) (h : Tbl w) (hza : Rd w A a) (hya : Byt a) (hca : a.length ≤ c) (hcc : c ≤ 9223372036854775807) (hzb : Rd w B b) (hyb : Byt b) (hcb : b.length ≤ d) (hdd : d ≤ 9223372036854775807) (hq : plainC t a = 0) (hp : plainC t b = 0) (hk : knd t = 6) :
    Calls Tryz.prog 18 #[.int .u8 t, .slice A a.length c, .slice B b.length d] w (CmpSaid w (0, false)) := by
  have HPA := Aside0.mk (plain_any t ht A c a w h hza hya hca hcc)
  have HPB := Aside0.mk fun W (hW : Below w.heap.size w W) => plain_any t ht B d b W (h.below hW) (hzb.below hW) hyb hcb hdd
  have K := Aside0.mk fun W (hW : Below w.heap.size w W) => (Tbl.below h hW).at_ ht
  have HZA := Aside0.mk hza
  have HZB := Aside0.mk hzb
  clear h hza hzb
  obtain ⟨hpa0, hpa1, hpa2, -, -⟩ := plainC_0 hq
  obtain ⟨hpb0, hpb1, hpb2, -, -⟩ := plainC_0 hp
  have hsz := siz_of t
  rw [hq] at HPA
  simp only [hp] at HPB
  rw [hk] at hsz hpa2 hpb2
  simp only [hk] at K
  clear hq hp hpa0 hpb0
  clear hsz hpa2 hpb2
  go_enter Tryz.func18, Tryz.ntmps18
  go_wp2_with (first
    | (go_at_call 35; refine HPA.out.mono ?_; rintro e w1 ⟨rfl, hb1⟩; have HB1 := Aside0.mk hb1; clear hb1 HPA)
    | (go_at_call 35; refine (HPB.out _ HB1.out).mono ?_; rintro e w2 ⟨rfl, hb2⟩; have HB2 := Aside0.mk (HB1.out.trans (hb2.mono HB1.out.size)); clear hb2 HPB; obtain ⟨bm, hcell, hl⟩ := K.out _ HB2.out; have hf0 := fun k n => (fields_form k n).1))
  go_ret2
  exact ⟨rfl, HB2.out⟩
set_option maxRecDepth 100000 in
set_option maxHeartbeats 2000000 in
theorem compare_2 (ht : 0 ≤ t ∧ t < 256) (h : Tbl w) (hza : Rd w A a) (hya : Byt a) (hca : a.length ≤ c) (hcc : c ≤ 9223372036854775807) (hzb : Rd w B b) (hyb : Byt b) (hcb : b.length ≤ d) (hdd : d ≤ 9223372036854775807) (hq : plainC t a = 0) (hp : plainC t b = 0) (hk : knd t = 2) :
    Calls Tryz.prog 18 #[.int .u8 t, .slice A a.length c, .slice B b.length d] w (CmpSaid w (cmp3 (wholeC a) (wholeC b), true)) := by
  have HPA := Aside0.mk (plain_any t ht A c a w h hza hya hca hcc)
  have HPB := Aside0.mk fun W (hW : Below w.heap.size w W) => plain_any t ht B d b W (h.below hW) (hzb.below hW) hyb hcb hdd
  have K := Aside0.mk fun W (hW : Below w.heap.size w W) => (Tbl.below h hW).at_ ht
  have HZA := Aside0.mk hza
  have HZB := Aside0.mk hzb
  clear h hza hzb
  obtain ⟨hpa0, hpa1, hpa2, -, -⟩ := plainC_0 hq
  obtain ⟨hpb0, hpb1, hpb2, -, -⟩ := plainC_0 hp
  have hsz := siz_of t
  rw [hq] at HPA
  simp only [hp] at HPB
  rw [hk] at hsz hpa2 hpb2
  simp only [hk] at K
  clear hq hp hpa0 hpb0
  have hs := hsz.2.1 rfl
  have HWA := Aside0.mk fun W (hW : Below w.heap.size w W) => whole_any A c a W (HZA.out.below hW) hya (by omega)
  have HWB := Aside0.mk fun W (hW : Below w.heap.size w W) => whole_any B d b W (HZB.out.below hW) hyb (by omega)
  clear hsz hpa2 hpb2 hs
  go_enter Tryz.func18, Tryz.ntmps18
  go_wp2_with (first
    | (go_at_call 35; refine HPA.out.mono ?_; rintro e w1 ⟨rfl, hb1⟩; have HB1 := Aside0.mk hb1; clear hb1 HPA)
    | (go_at_call 35; refine (HPB.out _ HB1.out).mono ?_; rintro e w2 ⟨rfl, hb2⟩; have HB2 := Aside0.mk (HB1.out.trans (hb2.mono HB1.out.size)); clear hb2 HPB; obtain ⟨bm, hcell, hl⟩ := K.out _ HB2.out; have hf0 := fun k n => (fields_form k n).1)
    | (go_at_call 42; refine (HWA.out _ HB2.out).mono ?_; rintro e w3 ⟨rfl, hb3⟩; have HB3 := Aside0.mk (HB2.out.trans (hb3.mono HB2.out.size)); clear hb3 HWA)
    | (go_at_call 42; refine (HWB.out _ HB3.out).mono ?_; rintro e w4 ⟨rfl, hb4⟩; have HB4 := Aside0.mk (HB3.out.trans (hb4.mono HB3.out.size)); clear hb4 HWB)
    | (go_at_call 41; refine (compare_i _ _ _).mono ?_; rintro e w5 ⟨rfl, rfl⟩))
  go_ret2
  exact ⟨rfl, HB4.out⟩
set_option maxRecDepth 100000 in
set_option maxHeartbeats 2000000 in
theorem compare_1 (ht : 0 ≤ t ∧ t < 256) (h : Tbl w) (hza : Rd w A a) (hya : Byt a) (hca : a.length ≤ c) (hcc : c ≤ 9223372036854775807) (hzb : Rd w B b) (hyb : Byt b) (hcb : b.length ≤ d) (hdd : d ≤ 9223372036854775807) (hq : plainC t a = 0) (hp : plainC t b = 0) (hk : knd t = 1) :
    Calls Tryz.prog 18 #[.int .u8 t, .slice A a.length c, .slice B b.length d] w (CmpSaid w (cmp3 (num a) (num b), true)) := by
  have HPA := Aside0.mk (plain_any t ht A c a w h hza hya hca hcc)
  have HPB := Aside0.mk fun W (hW : Below w.heap.size w W) => plain_any t ht B d b W (h.below hW) (hzb.below hW) hyb hcb hdd
  have K := Aside0.mk fun W (hW : Below w.heap.size w W) => (Tbl.below h hW).at_ ht
  have HZA := Aside0.mk hza
  have HZB := Aside0.mk hzb
  clear h hza hzb
  obtain ⟨hpa0, hpa1, hpa2, -, -⟩ := plainC_0 hq
  obtain ⟨hpb0, hpb1, hpb2, -, -⟩ := plainC_0 hp
  have hsz := siz_of t
  rw [hq] at HPA
  simp only [hp] at HPB
  rw [hk] at hsz hpa2 hpb2
  simp only [hk] at K
  clear hq hp hpa0 hpb0
  have hs := hsz.1 rfl
  have HWA := Aside0.mk fun W (hW : Below w.heap.size w W) => number_any A c a W (HZA.out.below hW) hya (by omega)
  have HWB := Aside0.mk fun W (hW : Below w.heap.size w W) => number_any B d b W (HZB.out.below hW) hyb (by omega)
  clear hsz hpa2 hpb2 hs
  go_enter Tryz.func18, Tryz.ntmps18
  go_wp2_with (first
    | (go_at_call 35; refine HPA.out.mono ?_; rintro e w1 ⟨rfl, hb1⟩; have HB1 := Aside0.mk hb1; clear hb1 HPA)
    | (go_at_call 35; refine (HPB.out _ HB1.out).mono ?_; rintro e w2 ⟨rfl, hb2⟩; have HB2 := Aside0.mk (HB1.out.trans (hb2.mono HB1.out.size)); clear hb2 HPB; obtain ⟨bm, hcell, hl⟩ := K.out _ HB2.out; have hf0 := fun k n => (fields_form k n).1)
    | (go_at_call 49; refine (HWA.out _ HB2.out).mono ?_; rintro e w3 ⟨rfl, hb3⟩; have HB3 := Aside0.mk (HB2.out.trans (hb3.mono HB2.out.size)); clear hb3 HWA)
    | (go_at_call 49; refine (HWB.out _ HB3.out).mono ?_; rintro e w4 ⟨rfl, hb4⟩; have HB4 := Aside0.mk (HB3.out.trans (hb4.mono HB3.out.size)); clear hb4 HWB)
    | (go_at_call 48; refine (compare_u _ _ _).mono ?_; rintro e w5 ⟨rfl, rfl⟩))
  go_ret2
  exact ⟨rfl, HB4.out⟩
set_option maxRecDepth 100000 in
set_option maxHeartbeats 2000000 in
theorem compare_3 (ht : 0 ≤ t ∧ t < 256) (h : Tbl w) (hza : Rd w A a) (hya : Byt a) (hca : a.length ≤ c) (hcc : c ≤ 9223372036854775807) (hzb : Rd w B b) (hyb : Byt b) (hcb : b.length ≤ d) (hdd : d ≤ 9223372036854775807) (hq : plainC t a = 0) (hp : plainC t b = 0) (hk : knd t = 3) :
    Calls Tryz.prog 18 #[.int .u8 t, .slice A a.length c, .slice B b.length d] w (CmpSaid w (cmp3 (num a) (num b), true)) := by
  have HPA := Aside0.mk (plain_any t ht A c a w h hza hya hca hcc)
  have HPB := Aside0.mk fun W (hW : Below w.heap.size w W) => plain_any t ht B d b W (h.below hW) (hzb.below hW) hyb hcb hdd
  have K := Aside0.mk fun W (hW : Below w.heap.size w W) => (Tbl.below h hW).at_ ht
  have HZA := Aside0.mk hza
  have HZB := Aside0.mk hzb
  clear h hza hzb
  obtain ⟨hpa0, hpa1, hpa2, -, -⟩ := plainC_0 hq
  obtain ⟨hpb0, hpb1, hpb2, -, -⟩ := plainC_0 hp
  have hsz := siz_of t
  rw [hq] at HPA
  simp only [hp] at HPB
  rw [hk] at hsz hpa2 hpb2
  simp only [hk] at K
  clear hq hp hpa0 hpb0
  have hs := hsz.2.2.1 rfl
  have HWA := Aside0.mk fun W (hW : Below w.heap.size w W) => number_any A c a W (HZA.out.below hW) hya (by omega)
  have HWB := Aside0.mk fun W (hW : Below w.heap.size w W) => number_any B d b W (HZB.out.below hW) hyb (by omega)
  clear hsz hpa2 hpb2 hs
  go_enter Tryz.func18, Tryz.ntmps18
  go_wp2_with (first
    | (go_at_call 35; refine HPA.out.mono ?_; rintro e w1 ⟨rfl, hb1⟩; have HB1 := Aside0.mk hb1; clear hb1 HPA)
    | (go_at_call 35; refine (HPB.out _ HB1.out).mono ?_; rintro e w2 ⟨rfl, hb2⟩; have HB2 := Aside0.mk (HB1.out.trans (hb2.mono HB1.out.size)); clear hb2 HPB; obtain ⟨bm, hcell, hl⟩ := K.out _ HB2.out; have hf0 := fun k n => (fields_form k n).1)
    | (go_at_call 49; refine (HWA.out _ HB2.out).mono ?_; rintro e w3 ⟨rfl, hb3⟩; have HB3 := Aside0.mk (HB2.out.trans (hb3.mono HB2.out.size)); clear hb3 HWA)
    | (go_at_call 49; refine (HWB.out _ HB3.out).mono ?_; rintro e w4 ⟨rfl, hb4⟩; have HB4 := Aside0.mk (HB3.out.trans (hb4.mono HB3.out.size)); clear hb4 HWB)
    | (go_at_call 48; refine (compare_u _ _ _).mono ?_; rintro e w5 ⟨rfl, rfl⟩))
  go_ret2
  exact ⟨rfl, HB4.out⟩
set_option maxRecDepth 100000 in
set_option maxHeartbeats 2000000 in
theorem compare_4a (ht : 0 ≤ t ∧ t < 256) (h : Tbl w) (hza : Rd w A a) (hya : Byt a) (hca : a.length ≤ c) (hcc : c ≤ 9223372036854775807) (hzb : Rd w B b) (hyb : Byt b) (hcb : b.length ≤ d) (hdd : d ≤ 9223372036854775807) (hq : plainC t a = 0) (hp : plainC t b = 0) (hk : knd t = 4) (hna : nanF a) :
    Calls Tryz.prog 18 #[.int .u8 t, .slice A a.length c, .slice B b.length d] w (CmpSaid w (0, false)) := by
  have HPA := Aside0.mk (plain_any t ht A c a w h hza hya hca hcc)
  have HPB := Aside0.mk fun W (hW : Below w.heap.size w W) => plain_any t ht B d b W (h.below hW) (hzb.below hW) hyb hcb hdd
  have K := Aside0.mk fun W (hW : Below w.heap.size w W) => (Tbl.below h hW).at_ ht
  have HZA := Aside0.mk hza
  have HZB := Aside0.mk hzb
  clear h hza hzb
  obtain ⟨hpa0, hpa1, hpa2, -, -⟩ := plainC_0 hq
  obtain ⟨hpb0, hpb1, hpb2, -, -⟩ := plainC_0 hp
  have hsz := siz_of t
  rw [hq] at HPA
  simp only [hp] at HPB
  rw [hk] at hsz hpa2 hpb2
  simp only [hk] at K
  clear hq hp hpa0 hpb0
  have hs := hsz.2.2.2.1 rfl
  have HRA := Aside0.mk fun W (hW : Below w.heap.size w W) => real_any A c a W (HZA.out.below hW) hya (by omega)
  have HRB := Aside0.mk fun W (hW : Below w.heap.size w W) => real_any B d b W (HZB.out.below hW) hyb (by omega)
  clear hsz hpa2 hpb2 hs
  obtain ⟨xa, hxa⟩ : ∃ x, bitF a = x := ⟨_, rfl⟩
  obtain ⟨xb, hxb⟩ : ∃ x, bitF b = x := ⟨_, rfl⟩
  simp only [hxa] at HRA
  simp only [hxb] at HRB

  go_enter Tryz.func18, Tryz.ntmps18
  go_wp2_with (first
    | (go_at_call 35; refine HPA.out.mono ?_; rintro e w1 ⟨rfl, hb1⟩; have HB1 := Aside0.mk hb1; clear hb1 HPA)
    | (go_at_call 35; refine (HPB.out _ HB1.out).mono ?_; rintro e w2 ⟨rfl, hb2⟩; have HB2 := Aside0.mk (HB1.out.trans (hb2.mono HB1.out.size)); clear hb2 HPB; obtain ⟨bm, hcell, hl⟩ := K.out _ HB2.out; have hf0 := fun k n => (fields_form k n).1)
    | (go_at_call 43; refine (HRA.out _ HB2.out).mono ?_; rintro e w3 ⟨X, rfl, hn1, hn2, hb3⟩; have HB3 := Aside0.mk (HB2.out.trans (hb3.mono HB2.out.size)); clear hb3 HRA; have HNX := Aside0.mk (hn1 hna X).1; clear hn1 hn2)
    | (go_at_call 43; refine (HRB.out _ HB3.out).mono ?_; rintro e w4 ⟨Y, rfl, hm1, hm2, hb4⟩; have HB4 := Aside0.mk (HB3.out.trans (hb4.mono HB3.out.size)); clear hb4 HRB; clear hm1 hm2)
    | (go_at_call 44; refine (misnan_yes HNX.out _).mono ?_; rintro e w5 ⟨rfl, rfl⟩))
  go_ret2
  exact ⟨rfl, HB4.out⟩
set_option maxRecDepth 100000 in
set_option maxHeartbeats 2000000 in
theorem compare_4b (ht : 0 ≤ t ∧ t < 256) (h : Tbl w) (hza : Rd w A a) (hya : Byt a) (hca : a.length ≤ c) (hcc : c ≤ 9223372036854775807) (hzb : Rd w B b) (hyb : Byt b) (hcb : b.length ≤ d) (hdd : d ≤ 9223372036854775807) (hq : plainC t a = 0) (hp : plainC t b = 0) (hk : knd t = 4) (hna : ¬ nanF a) (hnb : nanF b) :
    Calls Tryz.prog 18 #[.int .u8 t, .slice A a.length c, .slice B b.length d] w (CmpSaid w (0, false)) := by
  have HPA := Aside0.mk (plain_any t ht A c a w h hza hya hca hcc)
  have HPB := Aside0.mk fun W (hW : Below w.heap.size w W) => plain_any t ht B d b W (h.below hW) (hzb.below hW) hyb hcb hdd
  have K := Aside0.mk fun W (hW : Below w.heap.size w W) => (Tbl.below h hW).at_ ht
  have HZA := Aside0.mk hza
  have HZB := Aside0.mk hzb
  clear h hza hzb
  obtain ⟨hpa0, hpa1, hpa2, -, -⟩ := plainC_0 hq
  obtain ⟨hpb0, hpb1, hpb2, -, -⟩ := plainC_0 hp
  have hsz := siz_of t
  rw [hq] at HPA
  simp only [hp] at HPB
  rw [hk] at hsz hpa2 hpb2
  simp only [hk] at K
  clear hq hp hpa0 hpb0
  have hs := hsz.2.2.2.1 rfl
  have HRA := Aside0.mk fun W (hW : Below w.heap.size w W) => real_any A c a W (HZA.out.below hW) hya (by omega)
  have HRB := Aside0.mk fun W (hW : Below w.heap.size w W) => real_any B d b W (HZB.out.below hW) hyb (by omega)
  clear hsz hpa2 hpb2 hs
  obtain ⟨xa, hxa⟩ : ∃ x, bitF a = x := ⟨_, rfl⟩
  obtain ⟨xb, hxb⟩ : ∃ x, bitF b = x := ⟨_, rfl⟩
  simp only [hxa] at HRA
  simp only [hxb] at HRB

  go_enter Tryz.func18, Tryz.ntmps18
  go_wp2_with (first
    | (go_at_call 35; refine HPA.out.mono ?_; rintro e w1 ⟨rfl, hb1⟩; have HB1 := Aside0.mk hb1; clear hb1 HPA)
    | (go_at_call 35; refine (HPB.out _ HB1.out).mono ?_; rintro e w2 ⟨rfl, hb2⟩; have HB2 := Aside0.mk (HB1.out.trans (hb2.mono HB1.out.size)); clear hb2 HPB; obtain ⟨bm, hcell, hl⟩ := K.out _ HB2.out; have hf0 := fun k n => (fields_form k n).1)
    | (go_at_call 43; refine (HRA.out _ HB2.out).mono ?_; rintro e w3 ⟨X, rfl, hn1, hn2, hb3⟩; have HB3 := Aside0.mk (HB2.out.trans (hb3.mono HB2.out.size)); clear hb3 HRA; obtain ⟨rfl, hxl, hxe⟩ := hn2 hna; have HXL := Aside0.mk hxl; have HXE := Aside0.mk hxe; clear hn1 hn2 hxl hxe)
    | (go_at_call 43; refine (HRB.out _ HB3.out).mono ?_; rintro e w4 ⟨Y, rfl, hm1, hm2, hb4⟩; have HB4 := Aside0.mk (HB3.out.trans (hb4.mono HB3.out.size)); clear hb4 HRB; have HNY := Aside0.mk (hm1 hnb Y).1; clear hm1 hm2)
    | (go_at_call 44; refine (misnan_no HXE.out _).mono ?_; rintro e w5 ⟨rfl, rfl⟩)
    | (go_at_call 44; refine (misnan_yes HNY.out _).mono ?_; rintro e w6 ⟨rfl, rfl⟩))
  go_ret2
  exact ⟨rfl, HB4.out⟩
set_option maxRecDepth 100000 in
set_option maxHeartbeats 2000000 in
theorem compare_4z (ht : 0 ≤ t ∧ t < 256) (h : Tbl w) (hza : Rd w A a) (hya : Byt a) (hca : a.length ≤ c) (hcc : c ≤ 9223372036854775807) (hzb : Rd w B b) (hyb : Byt b) (hcb : b.length ≤ d) (hdd : d ≤ 9223372036854775807) (hq : plainC t a = 0) (hp : plainC t b = 0) (hk : knd t = 4) (hna : ¬ nanF a) (hnb : ¬ nanF b) (hz : ordF (bitF a) 0 = some .eq) (hz2 : ordF (bitF b) 0 = some .eq) :
    Calls Tryz.prog 18 #[.int .u8 t, .slice A a.length c, .slice B b.length d] w (CmpSaid w (f3 (csn (bitF a)) (csn (bitF b)), true)) := by
  have HPA := Aside0.mk (plain_any t ht A c a w h hza hya hca hcc)
  have HPB := Aside0.mk fun W (hW : Below w.heap.size w W) => plain_any t ht B d b W (h.below hW) (hzb.below hW) hyb hcb hdd
  have K := Aside0.mk fun W (hW : Below w.heap.size w W) => (Tbl.below h hW).at_ ht
  have HZA := Aside0.mk hza
  have HZB := Aside0.mk hzb
  clear h hza hzb
  obtain ⟨hpa0, hpa1, hpa2, -, -⟩ := plainC_0 hq
  obtain ⟨hpb0, hpb1, hpb2, -, -⟩ := plainC_0 hp
  have hsz := siz_of t
  rw [hq] at HPA
  simp only [hp] at HPB
  rw [hk] at hsz hpa2 hpb2
  simp only [hk] at K
  clear hq hp hpa0 hpb0
  have hs := hsz.2.2.2.1 rfl
  have HRA := Aside0.mk fun W (hW : Below w.heap.size w W) => real_any A c a W (HZA.out.below hW) hya (by omega)
  have HRB := Aside0.mk fun W (hW : Below w.heap.size w W) => real_any B d b W (HZB.out.below hW) hyb (by omega)
  clear hsz hpa2 hpb2 hs
  obtain ⟨xa, hxa⟩ : ∃ x, bitF a = x := ⟨_, rfl⟩
  obtain ⟨xb, hxb⟩ : ∃ x, bitF b = x := ⟨_, rfl⟩
  simp only [hxa] at HRA
  simp only [hxb] at HRB
  rw [hxa] at hz ⊢
  rw [hxb] at hz2 ⊢
  have z1 : (FloatKind.f64.format.order xa 0 == some .eq) = true := by rw [show FloatKind.f64.format.order xa 0 = some .eq from hz]; rfl
  have z2 : (FloatKind.f64.format.order xb 0 == some .eq) = true := by rw [show FloatKind.f64.format.order xb 0 = some .eq from hz2]; rfl
  clear hz hz2 hxa hxb

  go_enter Tryz.func18, Tryz.ntmps18
  go_wp2_with (first
    | (go_at_call 35; refine HPA.out.mono ?_; rintro e w1 ⟨rfl, hb1⟩; have HB1 := Aside0.mk hb1; clear hb1 HPA)
    | (go_at_call 35; refine (HPB.out _ HB1.out).mono ?_; rintro e w2 ⟨rfl, hb2⟩; have HB2 := Aside0.mk (HB1.out.trans (hb2.mono HB1.out.size)); clear hb2 HPB; obtain ⟨bm, hcell, hl⟩ := K.out _ HB2.out; have hf0 := fun k n => (fields_form k n).1)
    | (go_at_call 43; refine (HRA.out _ HB2.out).mono ?_; rintro e w3 ⟨X, rfl, hn1, hn2, hb3⟩; have HB3 := Aside0.mk (HB2.out.trans (hb3.mono HB2.out.size)); clear hb3 HRA; obtain ⟨rfl, hxl, hxe⟩ := hn2 hna; have HXL := Aside0.mk hxl; have HXE := Aside0.mk hxe; clear hn1 hn2 hxl hxe)
    | (go_at_call 43; refine (HRB.out _ HB3.out).mono ?_; rintro e w4 ⟨Y, rfl, hm1, hm2, hb4⟩; have HB4 := Aside0.mk (HB3.out.trans (hb4.mono HB3.out.size)); clear hb4 HRB; obtain ⟨rfl, hyl, hye⟩ := hm2 hnb; have HYL := Aside0.mk hyl; have HYE := Aside0.mk hye; clear hm1 hm2 hyl hye)
    | (go_at_call 44; refine (misnan_no HXE.out _).mono ?_; rintro e w5 ⟨rfl, rfl⟩)
    | (go_at_call 44; refine (misnan_no HYE.out _).mono ?_; rintro e w6 ⟨rfl, rfl⟩)
    | (go_at_call 46; (with_reducible refine (copysign_any X HXL.out _).mono ?_); rintro e w7 ⟨rfl, rfl⟩)
    | (go_at_call 46; (with_reducible refine (copysign_any Y HYL.out _).mono ?_); rintro e w8 ⟨rfl, rfl⟩)
    | (go_at_call 45; refine (compare_f _ _ (csn_self _) (csn_self _) _).mono ?_; rintro e w9 ⟨rfl, rfl⟩))
  go_ret2
  exact ⟨rfl, HB4.out⟩
set_option maxRecDepth 100000 in
set_option maxHeartbeats 2000000 in
theorem compare_4x (ht : 0 ≤ t ∧ t < 256) (h : Tbl w) (hza : Rd w A a) (hya : Byt a) (hca : a.length ≤ c) (hcc : c ≤ 9223372036854775807) (hzb : Rd w B b) (hyb : Byt b) (hcb : b.length ≤ d) (hdd : d ≤ 9223372036854775807) (hq : plainC t a = 0) (hp : plainC t b = 0) (hk : knd t = 4) (hna : ¬ nanF a) (hnb : ¬ nanF b) (hz : ordF (bitF a) 0 ≠ some .eq) :
    Calls Tryz.prog 18 #[.int .u8 t, .slice A a.length c, .slice B b.length d] w (CmpSaid w (f3 (bitF a) (bitF b), true)) := by
  have HPA := Aside0.mk (plain_any t ht A c a w h hza hya hca hcc)
  have HPB := Aside0.mk fun W (hW : Below w.heap.size w W) => plain_any t ht B d b W (h.below hW) (hzb.below hW) hyb hcb hdd
  have K := Aside0.mk fun W (hW : Below w.heap.size w W) => (Tbl.below h hW).at_ ht
  have HZA := Aside0.mk hza
  have HZB := Aside0.mk hzb
  clear h hza hzb
  obtain ⟨hpa0, hpa1, hpa2, -, -⟩ := plainC_0 hq
  obtain ⟨hpb0, hpb1, hpb2, -, -⟩ := plainC_0 hp
  have hsz := siz_of t
  rw [hq] at HPA
  simp only [hp] at HPB
  rw [hk] at hsz hpa2 hpb2
  simp only [hk] at K
  clear hq hp hpa0 hpb0
  have hs := hsz.2.2.2.1 rfl
  have HRA := Aside0.mk fun W (hW : Below w.heap.size w W) => real_any A c a W (HZA.out.below hW) hya (by omega)
  have HRB := Aside0.mk fun W (hW : Below w.heap.size w W) => real_any B d b W (HZB.out.below hW) hyb (by omega)
  clear hsz hpa2 hpb2 hs
  obtain ⟨xa, hxa⟩ : ∃ x, bitF a = x := ⟨_, rfl⟩
  obtain ⟨xb, hxb⟩ : ∃ x, bitF b = x := ⟨_, rfl⟩
  simp only [hxa] at HRA
  simp only [hxb] at HRB
  rw [hxa] at hz ⊢
  rw [hxb]
  have z1 : (FloatKind.f64.format.order xa 0 == some .eq) = false := by simpa using hz
  clear hz hxa hxb

  go_enter Tryz.func18, Tryz.ntmps18
  go_wp2_with (first
    | (go_at_call 35; refine HPA.out.mono ?_; rintro e w1 ⟨rfl, hb1⟩; have HB1 := Aside0.mk hb1; clear hb1 HPA)
    | (go_at_call 35; refine (HPB.out _ HB1.out).mono ?_; rintro e w2 ⟨rfl, hb2⟩; have HB2 := Aside0.mk (HB1.out.trans (hb2.mono HB1.out.size)); clear hb2 HPB; obtain ⟨bm, hcell, hl⟩ := K.out _ HB2.out; have hf0 := fun k n => (fields_form k n).1)
    | (go_at_call 43; refine (HRA.out _ HB2.out).mono ?_; rintro e w3 ⟨X, rfl, hn1, hn2, hb3⟩; have HB3 := Aside0.mk (HB2.out.trans (hb3.mono HB2.out.size)); clear hb3 HRA; obtain ⟨rfl, hxl, hxe⟩ := hn2 hna; have HXL := Aside0.mk hxl; have HXE := Aside0.mk hxe; clear hn1 hn2 hxl hxe)
    | (go_at_call 43; refine (HRB.out _ HB3.out).mono ?_; rintro e w4 ⟨Y, rfl, hm1, hm2, hb4⟩; have HB4 := Aside0.mk (HB3.out.trans (hb4.mono HB3.out.size)); clear hb4 HRB; obtain ⟨rfl, hyl, hye⟩ := hm2 hnb; have HYL := Aside0.mk hyl; have HYE := Aside0.mk hye; clear hm1 hm2 hyl hye)
    | (go_at_call 44; refine (misnan_no HXE.out _).mono ?_; rintro e w5 ⟨rfl, rfl⟩)
    | (go_at_call 44; refine (misnan_no HYE.out _).mono ?_; rintro e w6 ⟨rfl, rfl⟩)
    | (go_at_call 45; refine (compare_f _ _ HXE.out HYE.out _).mono ?_; rintro e w9 ⟨rfl, rfl⟩))
  go_ret2
  exact ⟨rfl, HB4.out⟩
set_option maxRecDepth 100000 in
set_option maxHeartbeats 2000000 in
theorem compare_4y (ht : 0 ≤ t ∧ t < 256) (h : Tbl w) (hza : Rd w A a) (hya : Byt a) (hca : a.length ≤ c) (hcc : c ≤ 9223372036854775807) (hzb : Rd w B b) (hyb : Byt b) (hcb : b.length ≤ d) (hdd : d ≤ 9223372036854775807) (hq : plainC t a = 0) (hp : plainC t b = 0) (hk : knd t = 4) (hna : ¬ nanF a) (hnb : ¬ nanF b) (hz : ordF (bitF a) 0 = some .eq) (hz2 : ordF (bitF b) 0 ≠ some .eq) :
    Calls Tryz.prog 18 #[.int .u8 t, .slice A a.length c, .slice B b.length d] w (CmpSaid w (f3 (bitF a) (bitF b), true)) := by
  have HPA := Aside0.mk (plain_any t ht A c a w h hza hya hca hcc)
  have HPB := Aside0.mk fun W (hW : Below w.heap.size w W) => plain_any t ht B d b W (h.below hW) (hzb.below hW) hyb hcb hdd
  have K := Aside0.mk fun W (hW : Below w.heap.size w W) => (Tbl.below h hW).at_ ht
  have HZA := Aside0.mk hza
  have HZB := Aside0.mk hzb
  clear h hza hzb
  obtain ⟨hpa0, hpa1, hpa2, -, -⟩ := plainC_0 hq
  obtain ⟨hpb0, hpb1, hpb2, -, -⟩ := plainC_0 hp
  have hsz := siz_of t
  rw [hq] at HPA
  simp only [hp] at HPB
  rw [hk] at hsz hpa2 hpb2
  simp only [hk] at K
  clear hq hp hpa0 hpb0
  have hs := hsz.2.2.2.1 rfl
  have HRA := Aside0.mk fun W (hW : Below w.heap.size w W) => real_any A c a W (HZA.out.below hW) hya (by omega)
  have HRB := Aside0.mk fun W (hW : Below w.heap.size w W) => real_any B d b W (HZB.out.below hW) hyb (by omega)
  clear hsz hpa2 hpb2 hs
  obtain ⟨xa, hxa⟩ : ∃ x, bitF a = x := ⟨_, rfl⟩
  obtain ⟨xb, hxb⟩ : ∃ x, bitF b = x := ⟨_, rfl⟩
  simp only [hxa] at HRA
  simp only [hxb] at HRB
  rw [hxa] at hz ⊢
  rw [hxb] at hz2 ⊢
  have z1 : (FloatKind.f64.format.order xa 0 == some .eq) = true := by rw [show FloatKind.f64.format.order xa 0 = some .eq from hz]; rfl
  have z2 : (FloatKind.f64.format.order xb 0 == some .eq) = false := by simpa using hz2
  clear hz hz2 hxa hxb

  go_enter Tryz.func18, Tryz.ntmps18
  go_wp2_with (first
    | (go_at_call 35; refine HPA.out.mono ?_; rintro e w1 ⟨rfl, hb1⟩; have HB1 := Aside0.mk hb1; clear hb1 HPA)
    | (go_at_call 35; refine (HPB.out _ HB1.out).mono ?_; rintro e w2 ⟨rfl, hb2⟩; have HB2 := Aside0.mk (HB1.out.trans (hb2.mono HB1.out.size)); clear hb2 HPB; obtain ⟨bm, hcell, hl⟩ := K.out _ HB2.out; have hf0 := fun k n => (fields_form k n).1)
    | (go_at_call 43; refine (HRA.out _ HB2.out).mono ?_; rintro e w3 ⟨X, rfl, hn1, hn2, hb3⟩; have HB3 := Aside0.mk (HB2.out.trans (hb3.mono HB2.out.size)); clear hb3 HRA; obtain ⟨rfl, hxl, hxe⟩ := hn2 hna; have HXL := Aside0.mk hxl; have HXE := Aside0.mk hxe; clear hn1 hn2 hxl hxe)
    | (go_at_call 43; refine (HRB.out _ HB3.out).mono ?_; rintro e w4 ⟨Y, rfl, hm1, hm2, hb4⟩; have HB4 := Aside0.mk (HB3.out.trans (hb4.mono HB3.out.size)); clear hb4 HRB; obtain ⟨rfl, hyl, hye⟩ := hm2 hnb; have HYL := Aside0.mk hyl; have HYE := Aside0.mk hye; clear hm1 hm2 hyl hye)
    | (go_at_call 44; refine (misnan_no HXE.out _).mono ?_; rintro e w5 ⟨rfl, rfl⟩)
    | (go_at_call 44; refine (misnan_no HYE.out _).mono ?_; rintro e w6 ⟨rfl, rfl⟩)
    | (go_at_call 45; refine (compare_f _ _ HXE.out HYE.out _).mono ?_; rintro e w9 ⟨rfl, rfl⟩))
  go_ret2
  exact ⟨rfl, HB4.out⟩
end
end Go.Proofs.YtcgcghldgomelaaGreatDoor.Mp
