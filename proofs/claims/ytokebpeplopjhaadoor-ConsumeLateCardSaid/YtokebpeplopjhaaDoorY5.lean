/- types.Check. -/
import Derived.Test.YtokebpeplopjhaaDoorY4
namespace Go.Proofs.YtokebpeplopjhaaDoor.Mp
open Go.RowKit Go.Shelf Go.Proofs.YtokebpeplopjhaaDoor.Rng Go.Proofs.YtokebpeplopjhaaDoorW.PrintWords Go.Proofs.YtokebpeplopjhaaDoorW.PrintMore Go.Proofs.YtokebpeplopjhaaDoorW.PrintLast Go.Proofs.YtokebpeplopjhaaDoor.Num

/-- A row of bytes as an argument. -/
structure Arg (w : World) (A : Option Addr) (c : Nat) (a : List Int) : Prop where
  rd : Rd w A a
  byt : Byt a
  le : a.length ≤ c
  cap : c ≤ 9223372036854775807
theorem Arg.below {w w' : World} {A : Option Addr} {c : Nat} {a : List Int} (h : Arg w A c a) (hb : Below w.heap.size w w') : Arg w' A c a := ⟨h.rd.below hb, h.byt, h.le, h.cap⟩
section
variable (t : Int) (ht : 0 ≤ t ∧ t < 256) (A : Option Addr) (c : Nat) (b : List Int) (L : Option Addr) (cl : Nat) (low : List Int) (U : Option Addr) (cu : Nat) (high : List Int) (w : World)
/-- What Check tells. -/
def ChkSaid (w : World) (r : Int) (e : Ending) (w' : World) : Prop := e = .returned (.int .u32 r) ∧ Below w.heap.size w w'
/-- The box of the type. -/
abbrev boxed (w : World) (t : Int) : World := w.alloc (.cells #[.int .u8 t] 5)
theorem boxed_cell (w : World) (t : Int) (W : World) (h : Below (boxed w t).heap.size (boxed w t) W) : W.cell? ⟨w.heap.size, 0, none⟩ = some (.int .u8 t) := by
  refine (h.cell (p := ⟨w.heap.size, 0, none⟩) (by simp)).trans ?_
  exact blk_cell (blk_new w (.cells #[.int .u8 t] 5)) 0
set_option maxRecDepth 100000 in
set_option maxHeartbeats 2000000 in
theorem check_p (ht : 0 ≤ t ∧ t < 256) (h : Tbl w) (ha : Arg w A c b) (hl : Arg w L cl low) (hh : Arg w U cu high) (hp : plainC t b ≠ 0) :
    Calls Tryd.prog 78 #[.int .u8 t, .slice A b.length c, .slice L low.length cl, .slice U high.length cu] w (ChkSaid w (plainC t b)) := by
  have hb0 : Below w.heap.size w (boxed w t) := below_alloc (Below.refl _ _) _
  have HT := Aside0.mk (h.below hb0)
  have KA := Aside0.mk (ha.below hb0)
  have KL := Aside0.mk (hl.below hb0)
  have KU := Aside0.mk (hh.below hb0)
  have HB := Aside0.mk (Below.refl (boxed w t).heap.size (boxed w t))
  have HP := Aside0.mk fun W (hW : Below (boxed w t).heap.size (boxed w t) W) => plain_any t ht A c b W (HT.out.below hW) (KA.out.below hW).rd ha.byt ha.le ha.cap
  have HC0 := Aside0.mk fun W (hW : Below (boxed w t).heap.size (boxed w t) W) => compare_any t ht A c b A c b W (HT.out.below hW) (KA.out.below hW).rd ha.byt ha.le ha.cap (KA.out.below hW).rd ha.byt ha.le ha.cap
  have HCU := Aside0.mk fun W (hW : Below (boxed w t).heap.size (boxed w t) W) => compare_any t ht A c b U cu high W (HT.out.below hW) (KA.out.below hW).rd ha.byt ha.le ha.cap (KU.out.below hW).rd hh.byt hh.le hh.cap
  have HCL := Aside0.mk fun W (hW : Below (boxed w t).heap.size (boxed w t) W) => compare_any t ht A c b L cl low W (HT.out.below hW) (KA.out.below hW).rd ha.byt ha.le ha.cap (KL.out.below hW).rd hl.byt hl.le hl.cap
  have HBL := Aside0.mk fun W (hW : Below (boxed w t).heap.size (boxed w t) W) => bound_any t ht w.heap.size L cl low W (HT.out.below hW) (boxed_cell w t W hW) (KL.out.below hW).rd hl.byt hl.le hl.cap
  have HBU := Aside0.mk fun W (hW : Below (boxed w t).heap.size (boxed w t) W) => bound_any t ht w.heap.size U cu high W (HT.out.below hW) (boxed_cell w t W hW) (KU.out.below hW).rd hh.byt hh.le hh.cap
  clear h ha hl hh HT KA KL KU
  obtain ⟨r, hr⟩ : ∃ r, plainC t b = r := ⟨_, rfl⟩
  simp only [hr] at HP hp
  rw [hr]
  have hp1 : (r == 0) = false := by simpa using hp
  have hp2 : (r != 0) = true := by simpa using hp
  clear hr hp HC0 HCU HCL HBL HBU
  generalize b.length = nb at *
  generalize low.length = nl at *
  generalize high.length = nh at *
  go_enter Tryd.func78, Tryd.ntmps78
  go_wp2_with (first
    | (go_at_call 115; (with_reducible refine (HP.out _ HB.out).mono ?_); rintro e w1 ⟨rfl, hb⟩; replace HB := Aside0.mk (HB.out.trans (hb.mono HB.out.size)); have hc1 := boxed_cell w t _ HB.out; clear hb)
    | (go_at_call 117; (with_reducible refine (HC0.out _ HB.out).mono ?_); rintro e w2 ⟨rfl, hb⟩; replace HB := Aside0.mk (HB.out.trans (hb.mono HB.out.size)); have hc2 := boxed_cell w t _ HB.out; clear hb)
    | (go_at_call 117; (with_reducible refine (HCU.out _ HB.out).mono ?_); rintro e w3 ⟨rfl, hb⟩; replace HB := Aside0.mk (HB.out.trans (hb.mono HB.out.size)); have hc3 := boxed_cell w t _ HB.out; clear hb)
    | (go_at_call 117; (with_reducible refine (HCL.out _ HB.out).mono ?_); rintro e w4 ⟨rfl, hb⟩; replace HB := Aside0.mk (HB.out.trans (hb.mono HB.out.size)); have hc4 := boxed_cell w t _ HB.out; clear hb)
    | (go_at_call 116; (with_reducible refine (HBL.out _ HB.out).mono ?_); rintro e w5 ⟨rfl, hb⟩; replace HB := Aside0.mk (HB.out.trans (hb.mono HB.out.size)); have hc5 := boxed_cell w t _ HB.out; clear hb)
    | (go_at_call 116; (with_reducible refine (HBU.out _ HB.out).mono ?_); rintro e w6 ⟨rfl, hb⟩; replace HB := Aside0.mk (HB.out.trans (hb.mono HB.out.size)); have hc6 := boxed_cell w t _ HB.out; clear hb))
  go_ret
  exact ⟨rfl, hb0.trans (HB.out.mono (by simp))⟩
set_option maxRecDepth 100000 in
set_option maxHeartbeats 2000000 in
theorem check_1 (ht : 0 ≤ t ∧ t < 256) (h : Tbl w) (ha : Arg w A c b) (hl : Arg w L cl low) (hh : Arg w U cu high) (hp : plainC t b = 0) (h2 : (cmpC t b b).2 = false) (hbl : bndC t low) :
    Calls Tryd.prog 78 #[.int .u8 t, .slice A b.length c, .slice L low.length cl, .slice U high.length cu] w (ChkSaid w 0x06090030) := by
  have hb0 : Below w.heap.size w (boxed w t) := below_alloc (Below.refl _ _) _
  have HT := Aside0.mk (h.below hb0)
  have KA := Aside0.mk (ha.below hb0)
  have KL := Aside0.mk (hl.below hb0)
  have KU := Aside0.mk (hh.below hb0)
  have HB := Aside0.mk (Below.refl (boxed w t).heap.size (boxed w t))
  have HP := Aside0.mk fun W (hW : Below (boxed w t).heap.size (boxed w t) W) => plain_any t ht A c b W (HT.out.below hW) (KA.out.below hW).rd ha.byt ha.le ha.cap
  have HC0 := Aside0.mk fun W (hW : Below (boxed w t).heap.size (boxed w t) W) => compare_any t ht A c b A c b W (HT.out.below hW) (KA.out.below hW).rd ha.byt ha.le ha.cap (KA.out.below hW).rd ha.byt ha.le ha.cap
  have HCU := Aside0.mk fun W (hW : Below (boxed w t).heap.size (boxed w t) W) => compare_any t ht A c b U cu high W (HT.out.below hW) (KA.out.below hW).rd ha.byt ha.le ha.cap (KU.out.below hW).rd hh.byt hh.le hh.cap
  have HCL := Aside0.mk fun W (hW : Below (boxed w t).heap.size (boxed w t) W) => compare_any t ht A c b L cl low W (HT.out.below hW) (KA.out.below hW).rd ha.byt ha.le ha.cap (KL.out.below hW).rd hl.byt hl.le hl.cap
  have HBL := Aside0.mk fun W (hW : Below (boxed w t).heap.size (boxed w t) W) => bound_any t ht w.heap.size L cl low W (HT.out.below hW) (boxed_cell w t W hW) (KL.out.below hW).rd hl.byt hl.le hl.cap
  have HBU := Aside0.mk fun W (hW : Below (boxed w t).heap.size (boxed w t) W) => bound_any t ht w.heap.size U cu high W (HT.out.below hW) (boxed_cell w t W hW) (KU.out.below hW).rd hh.byt hh.le hh.cap
  clear h ha hl hh HT KA KL KU
  simp only [hp] at HP
  obtain ⟨⟨v1, v2⟩, hv⟩ : ∃ v, cmpC t b b = v := ⟨_, rfl⟩
  obtain ⟨⟨x1, x2⟩, hx⟩ : ∃ v, cmpC t b high = v := ⟨_, rfl⟩
  obtain ⟨⟨y1, y2⟩, hy⟩ : ∃ v, cmpC t b low = v := ⟨_, rfl⟩
  simp only [hv] at HC0 h2
  simp only [hx] at HCU
  simp only [hy] at HCL
  clear hp hv hx hy
  subst h2
  simp only [hbl, decide_true] at HBL
  clear HBU
  generalize b.length = nb at *
  generalize low.length = nl at *
  generalize high.length = nh at *
  go_enter Tryd.func78, Tryd.ntmps78
  go_wp2_with (first
    | (go_at_call 115; (with_reducible refine (HP.out _ HB.out).mono ?_); rintro e w1 ⟨rfl, hb⟩; replace HB := Aside0.mk (HB.out.trans (hb.mono HB.out.size)); have hc1 := boxed_cell w t _ HB.out; clear hb)
    | (go_at_call 117; (with_reducible refine (HC0.out _ HB.out).mono ?_); rintro e w2 ⟨rfl, hb⟩; replace HB := Aside0.mk (HB.out.trans (hb.mono HB.out.size)); have hc2 := boxed_cell w t _ HB.out; clear hb)
    | (go_at_call 117; (with_reducible refine (HCU.out _ HB.out).mono ?_); rintro e w3 ⟨rfl, hb⟩; replace HB := Aside0.mk (HB.out.trans (hb.mono HB.out.size)); have hc3 := boxed_cell w t _ HB.out; clear hb)
    | (go_at_call 117; (with_reducible refine (HCL.out _ HB.out).mono ?_); rintro e w4 ⟨rfl, hb⟩; replace HB := Aside0.mk (HB.out.trans (hb.mono HB.out.size)); have hc4 := boxed_cell w t _ HB.out; clear hb)
    | (go_at_call 116; (with_reducible refine (HBL.out _ HB.out).mono ?_); rintro e w5 ⟨rfl, hb⟩; replace HB := Aside0.mk (HB.out.trans (hb.mono HB.out.size)); have hc5 := boxed_cell w t _ HB.out; clear hb)
    | (go_at_call 116; (with_reducible refine (HBU.out _ HB.out).mono ?_); rintro e w6 ⟨rfl, hb⟩; replace HB := Aside0.mk (HB.out.trans (hb.mono HB.out.size)); have hc6 := boxed_cell w t _ HB.out; clear hb))
  go_ret
  exact ⟨rfl, hb0.trans (HB.out.mono (by simp))⟩
set_option maxRecDepth 100000 in
set_option maxHeartbeats 2000000 in
theorem check_2 (ht : 0 ≤ t ∧ t < 256) (h : Tbl w) (ha : Arg w A c b) (hl : Arg w L cl low) (hh : Arg w U cu high) (hp : plainC t b = 0) (h2 : (cmpC t b b).2 = false) (hbl : ¬ bndC t low) (hbh : bndC t high) :
    Calls Tryd.prog 78 #[.int .u8 t, .slice A b.length c, .slice L low.length cl, .slice U high.length cu] w (ChkSaid w 0x06090030) := by
  have hb0 : Below w.heap.size w (boxed w t) := below_alloc (Below.refl _ _) _
  have HT := Aside0.mk (h.below hb0)
  have KA := Aside0.mk (ha.below hb0)
  have KL := Aside0.mk (hl.below hb0)
  have KU := Aside0.mk (hh.below hb0)
  have HB := Aside0.mk (Below.refl (boxed w t).heap.size (boxed w t))
  have HP := Aside0.mk fun W (hW : Below (boxed w t).heap.size (boxed w t) W) => plain_any t ht A c b W (HT.out.below hW) (KA.out.below hW).rd ha.byt ha.le ha.cap
  have HC0 := Aside0.mk fun W (hW : Below (boxed w t).heap.size (boxed w t) W) => compare_any t ht A c b A c b W (HT.out.below hW) (KA.out.below hW).rd ha.byt ha.le ha.cap (KA.out.below hW).rd ha.byt ha.le ha.cap
  have HCU := Aside0.mk fun W (hW : Below (boxed w t).heap.size (boxed w t) W) => compare_any t ht A c b U cu high W (HT.out.below hW) (KA.out.below hW).rd ha.byt ha.le ha.cap (KU.out.below hW).rd hh.byt hh.le hh.cap
  have HCL := Aside0.mk fun W (hW : Below (boxed w t).heap.size (boxed w t) W) => compare_any t ht A c b L cl low W (HT.out.below hW) (KA.out.below hW).rd ha.byt ha.le ha.cap (KL.out.below hW).rd hl.byt hl.le hl.cap
  have HBL := Aside0.mk fun W (hW : Below (boxed w t).heap.size (boxed w t) W) => bound_any t ht w.heap.size L cl low W (HT.out.below hW) (boxed_cell w t W hW) (KL.out.below hW).rd hl.byt hl.le hl.cap
  have HBU := Aside0.mk fun W (hW : Below (boxed w t).heap.size (boxed w t) W) => bound_any t ht w.heap.size U cu high W (HT.out.below hW) (boxed_cell w t W hW) (KU.out.below hW).rd hh.byt hh.le hh.cap
  clear h ha hl hh HT KA KL KU
  simp only [hp] at HP
  obtain ⟨⟨v1, v2⟩, hv⟩ : ∃ v, cmpC t b b = v := ⟨_, rfl⟩
  obtain ⟨⟨x1, x2⟩, hx⟩ : ∃ v, cmpC t b high = v := ⟨_, rfl⟩
  obtain ⟨⟨y1, y2⟩, hy⟩ : ∃ v, cmpC t b low = v := ⟨_, rfl⟩
  simp only [hv] at HC0 h2
  simp only [hx] at HCU
  simp only [hy] at HCL
  clear hp hv hx hy
  subst h2
  simp only [hbl, decide_false] at HBL
  simp only [hbh, decide_true] at HBU
  generalize b.length = nb at *
  generalize low.length = nl at *
  generalize high.length = nh at *
  go_enter Tryd.func78, Tryd.ntmps78
  go_wp2_with (first
    | (go_at_call 115; (with_reducible refine (HP.out _ HB.out).mono ?_); rintro e w1 ⟨rfl, hb⟩; replace HB := Aside0.mk (HB.out.trans (hb.mono HB.out.size)); have hc1 := boxed_cell w t _ HB.out; clear hb)
    | (go_at_call 117; (with_reducible refine (HC0.out _ HB.out).mono ?_); rintro e w2 ⟨rfl, hb⟩; replace HB := Aside0.mk (HB.out.trans (hb.mono HB.out.size)); have hc2 := boxed_cell w t _ HB.out; clear hb)
    | (go_at_call 117; (with_reducible refine (HCU.out _ HB.out).mono ?_); rintro e w3 ⟨rfl, hb⟩; replace HB := Aside0.mk (HB.out.trans (hb.mono HB.out.size)); have hc3 := boxed_cell w t _ HB.out; clear hb)
    | (go_at_call 117; (with_reducible refine (HCL.out _ HB.out).mono ?_); rintro e w4 ⟨rfl, hb⟩; replace HB := Aside0.mk (HB.out.trans (hb.mono HB.out.size)); have hc4 := boxed_cell w t _ HB.out; clear hb)
    | (go_at_call 116; (with_reducible refine (HBL.out _ HB.out).mono ?_); rintro e w5 ⟨rfl, hb⟩; replace HB := Aside0.mk (HB.out.trans (hb.mono HB.out.size)); have hc5 := boxed_cell w t _ HB.out; clear hb)
    | (go_at_call 116; (with_reducible refine (HBU.out _ HB.out).mono ?_); rintro e w6 ⟨rfl, hb⟩; replace HB := Aside0.mk (HB.out.trans (hb.mono HB.out.size)); have hc6 := boxed_cell w t _ HB.out; clear hb))
  go_ret
  exact ⟨rfl, hb0.trans (HB.out.mono (by simp))⟩
set_option maxRecDepth 100000 in
set_option maxHeartbeats 2000000 in
theorem check_3 (ht : 0 ≤ t ∧ t < 256) (h : Tbl w) (ha : Arg w A c b) (hl : Arg w L cl low) (hh : Arg w U cu high) (hp : plainC t b = 0) (h2 : (cmpC t b b).2 = false) (hbl : ¬ bndC t low) (hbh : ¬ bndC t high) :
    Calls Tryd.prog 78 #[.int .u8 t, .slice A b.length c, .slice L low.length cl, .slice U high.length cu] w (ChkSaid w 0) := by
  have hb0 : Below w.heap.size w (boxed w t) := below_alloc (Below.refl _ _) _
  have HT := Aside0.mk (h.below hb0)
  have KA := Aside0.mk (ha.below hb0)
  have KL := Aside0.mk (hl.below hb0)
  have KU := Aside0.mk (hh.below hb0)
  have HB := Aside0.mk (Below.refl (boxed w t).heap.size (boxed w t))
  have HP := Aside0.mk fun W (hW : Below (boxed w t).heap.size (boxed w t) W) => plain_any t ht A c b W (HT.out.below hW) (KA.out.below hW).rd ha.byt ha.le ha.cap
  have HC0 := Aside0.mk fun W (hW : Below (boxed w t).heap.size (boxed w t) W) => compare_any t ht A c b A c b W (HT.out.below hW) (KA.out.below hW).rd ha.byt ha.le ha.cap (KA.out.below hW).rd ha.byt ha.le ha.cap
  have HCU := Aside0.mk fun W (hW : Below (boxed w t).heap.size (boxed w t) W) => compare_any t ht A c b U cu high W (HT.out.below hW) (KA.out.below hW).rd ha.byt ha.le ha.cap (KU.out.below hW).rd hh.byt hh.le hh.cap
  have HCL := Aside0.mk fun W (hW : Below (boxed w t).heap.size (boxed w t) W) => compare_any t ht A c b L cl low W (HT.out.below hW) (KA.out.below hW).rd ha.byt ha.le ha.cap (KL.out.below hW).rd hl.byt hl.le hl.cap
  have HBL := Aside0.mk fun W (hW : Below (boxed w t).heap.size (boxed w t) W) => bound_any t ht w.heap.size L cl low W (HT.out.below hW) (boxed_cell w t W hW) (KL.out.below hW).rd hl.byt hl.le hl.cap
  have HBU := Aside0.mk fun W (hW : Below (boxed w t).heap.size (boxed w t) W) => bound_any t ht w.heap.size U cu high W (HT.out.below hW) (boxed_cell w t W hW) (KU.out.below hW).rd hh.byt hh.le hh.cap
  clear h ha hl hh HT KA KL KU
  simp only [hp] at HP
  obtain ⟨⟨v1, v2⟩, hv⟩ : ∃ v, cmpC t b b = v := ⟨_, rfl⟩
  obtain ⟨⟨x1, x2⟩, hx⟩ : ∃ v, cmpC t b high = v := ⟨_, rfl⟩
  obtain ⟨⟨y1, y2⟩, hy⟩ : ∃ v, cmpC t b low = v := ⟨_, rfl⟩
  simp only [hv] at HC0 h2
  simp only [hx] at HCU
  simp only [hy] at HCL
  clear hp hv hx hy
  subst h2
  simp only [hbl, decide_false] at HBL
  simp only [hbh, decide_false] at HBU
  generalize b.length = nb at *
  generalize low.length = nl at *
  generalize high.length = nh at *
  go_enter Tryd.func78, Tryd.ntmps78
  go_wp2_with (first
    | (go_at_call 115; (with_reducible refine (HP.out _ HB.out).mono ?_); rintro e w1 ⟨rfl, hb⟩; replace HB := Aside0.mk (HB.out.trans (hb.mono HB.out.size)); have hc1 := boxed_cell w t _ HB.out; clear hb)
    | (go_at_call 117; (with_reducible refine (HC0.out _ HB.out).mono ?_); rintro e w2 ⟨rfl, hb⟩; replace HB := Aside0.mk (HB.out.trans (hb.mono HB.out.size)); have hc2 := boxed_cell w t _ HB.out; clear hb)
    | (go_at_call 117; (with_reducible refine (HCU.out _ HB.out).mono ?_); rintro e w3 ⟨rfl, hb⟩; replace HB := Aside0.mk (HB.out.trans (hb.mono HB.out.size)); have hc3 := boxed_cell w t _ HB.out; clear hb)
    | (go_at_call 117; (with_reducible refine (HCL.out _ HB.out).mono ?_); rintro e w4 ⟨rfl, hb⟩; replace HB := Aside0.mk (HB.out.trans (hb.mono HB.out.size)); have hc4 := boxed_cell w t _ HB.out; clear hb)
    | (go_at_call 116; (with_reducible refine (HBL.out _ HB.out).mono ?_); rintro e w5 ⟨rfl, hb⟩; replace HB := Aside0.mk (HB.out.trans (hb.mono HB.out.size)); have hc5 := boxed_cell w t _ HB.out; clear hb)
    | (go_at_call 116; (with_reducible refine (HBU.out _ HB.out).mono ?_); rintro e w6 ⟨rfl, hb⟩; replace HB := Aside0.mk (HB.out.trans (hb.mono HB.out.size)); have hc6 := boxed_cell w t _ HB.out; clear hb))
  go_ret
  exact ⟨rfl, hb0.trans (HB.out.mono (by simp))⟩
set_option maxRecDepth 100000 in
set_option maxHeartbeats 2000000 in
theorem check_4 (ht : 0 ≤ t ∧ t < 256) (h : Tbl w) (ha : Arg w A c b) (hl : Arg w L cl low) (hh : Arg w U cu high) (hp : plainC t b = 0) (h2 : (cmpC t b b).2 = true) (hbh : bndC t high) (hx0 : 0 < (cmpC t b high).1) :
    Calls Tryd.prog 78 #[.int .u8 t, .slice A b.length c, .slice L low.length cl, .slice U high.length cu] w (ChkSaid w 0x06090031) := by
  have hb0 : Below w.heap.size w (boxed w t) := below_alloc (Below.refl _ _) _
  have HT := Aside0.mk (h.below hb0)
  have KA := Aside0.mk (ha.below hb0)
  have KL := Aside0.mk (hl.below hb0)
  have KU := Aside0.mk (hh.below hb0)
  have HB := Aside0.mk (Below.refl (boxed w t).heap.size (boxed w t))
  have HP := Aside0.mk fun W (hW : Below (boxed w t).heap.size (boxed w t) W) => plain_any t ht A c b W (HT.out.below hW) (KA.out.below hW).rd ha.byt ha.le ha.cap
  have HC0 := Aside0.mk fun W (hW : Below (boxed w t).heap.size (boxed w t) W) => compare_any t ht A c b A c b W (HT.out.below hW) (KA.out.below hW).rd ha.byt ha.le ha.cap (KA.out.below hW).rd ha.byt ha.le ha.cap
  have HCU := Aside0.mk fun W (hW : Below (boxed w t).heap.size (boxed w t) W) => compare_any t ht A c b U cu high W (HT.out.below hW) (KA.out.below hW).rd ha.byt ha.le ha.cap (KU.out.below hW).rd hh.byt hh.le hh.cap
  have HCL := Aside0.mk fun W (hW : Below (boxed w t).heap.size (boxed w t) W) => compare_any t ht A c b L cl low W (HT.out.below hW) (KA.out.below hW).rd ha.byt ha.le ha.cap (KL.out.below hW).rd hl.byt hl.le hl.cap
  have HBL := Aside0.mk fun W (hW : Below (boxed w t).heap.size (boxed w t) W) => bound_any t ht w.heap.size L cl low W (HT.out.below hW) (boxed_cell w t W hW) (KL.out.below hW).rd hl.byt hl.le hl.cap
  have HBU := Aside0.mk fun W (hW : Below (boxed w t).heap.size (boxed w t) W) => bound_any t ht w.heap.size U cu high W (HT.out.below hW) (boxed_cell w t W hW) (KU.out.below hW).rd hh.byt hh.le hh.cap
  clear h ha hl hh HT KA KL KU
  simp only [hp] at HP
  obtain ⟨⟨v1, v2⟩, hv⟩ : ∃ v, cmpC t b b = v := ⟨_, rfl⟩
  obtain ⟨⟨x1, x2⟩, hx⟩ : ∃ v, cmpC t b high = v := ⟨_, rfl⟩
  obtain ⟨⟨y1, y2⟩, hy⟩ : ∃ v, cmpC t b low = v := ⟨_, rfl⟩
  simp only [hv] at HC0 h2
  simp only [hx] at HCU hx0
  simp only [hy] at HCL
  clear hp hv hx hy
  subst h2
  clear HBL
  simp only [hbh, decide_true] at HBU
  have hx1 : decide ((0 : Int) < x1) = true := by simpa using hx0
  generalize b.length = nb at *
  generalize low.length = nl at *
  generalize high.length = nh at *
  go_enter Tryd.func78, Tryd.ntmps78
  go_wp2_with (first
    | (go_at_call 115; (with_reducible refine (HP.out _ HB.out).mono ?_); rintro e w1 ⟨rfl, hb⟩; replace HB := Aside0.mk (HB.out.trans (hb.mono HB.out.size)); have hc1 := boxed_cell w t _ HB.out; clear hb)
    | (go_at_call 117; (with_reducible refine (HC0.out _ HB.out).mono ?_); rintro e w2 ⟨rfl, hb⟩; replace HB := Aside0.mk (HB.out.trans (hb.mono HB.out.size)); have hc2 := boxed_cell w t _ HB.out; clear hb)
    | (go_at_call 117; (with_reducible refine (HCU.out _ HB.out).mono ?_); rintro e w3 ⟨rfl, hb⟩; replace HB := Aside0.mk (HB.out.trans (hb.mono HB.out.size)); have hc3 := boxed_cell w t _ HB.out; clear hb)
    | (go_at_call 117; (with_reducible refine (HCL.out _ HB.out).mono ?_); rintro e w4 ⟨rfl, hb⟩; replace HB := Aside0.mk (HB.out.trans (hb.mono HB.out.size)); have hc4 := boxed_cell w t _ HB.out; clear hb)
    | (go_at_call 116; (with_reducible refine (HBL.out _ HB.out).mono ?_); rintro e w5 ⟨rfl, hb⟩; replace HB := Aside0.mk (HB.out.trans (hb.mono HB.out.size)); have hc5 := boxed_cell w t _ HB.out; clear hb)
    | (go_at_call 116; (with_reducible refine (HBU.out _ HB.out).mono ?_); rintro e w6 ⟨rfl, hb⟩; replace HB := Aside0.mk (HB.out.trans (hb.mono HB.out.size)); have hc6 := boxed_cell w t _ HB.out; clear hb))
  go_ret
  exact ⟨rfl, hb0.trans (HB.out.mono (by simp))⟩
set_option maxRecDepth 100000 in
set_option maxHeartbeats 2000000 in
theorem check_5 (ht : 0 ≤ t ∧ t < 256) (h : Tbl w) (ha : Arg w A c b) (hl : Arg w L cl low) (hh : Arg w U cu high) (hp : plainC t b = 0) (h2 : (cmpC t b b).2 = true) (hbl : bndC t low) (hbh : bndC t high) (hx0 : ¬ 0 < (cmpC t b high).1) (hy0 : (cmpC t b low).1 < 0) :
    Calls Tryd.prog 78 #[.int .u8 t, .slice A b.length c, .slice L low.length cl, .slice U high.length cu] w (ChkSaid w 0x06090032) := by
  have hb0 : Below w.heap.size w (boxed w t) := below_alloc (Below.refl _ _) _
  have HT := Aside0.mk (h.below hb0)
  have KA := Aside0.mk (ha.below hb0)
  have KL := Aside0.mk (hl.below hb0)
  have KU := Aside0.mk (hh.below hb0)
  have HB := Aside0.mk (Below.refl (boxed w t).heap.size (boxed w t))
  have HP := Aside0.mk fun W (hW : Below (boxed w t).heap.size (boxed w t) W) => plain_any t ht A c b W (HT.out.below hW) (KA.out.below hW).rd ha.byt ha.le ha.cap
  have HC0 := Aside0.mk fun W (hW : Below (boxed w t).heap.size (boxed w t) W) => compare_any t ht A c b A c b W (HT.out.below hW) (KA.out.below hW).rd ha.byt ha.le ha.cap (KA.out.below hW).rd ha.byt ha.le ha.cap
  have HCU := Aside0.mk fun W (hW : Below (boxed w t).heap.size (boxed w t) W) => compare_any t ht A c b U cu high W (HT.out.below hW) (KA.out.below hW).rd ha.byt ha.le ha.cap (KU.out.below hW).rd hh.byt hh.le hh.cap
  have HCL := Aside0.mk fun W (hW : Below (boxed w t).heap.size (boxed w t) W) => compare_any t ht A c b L cl low W (HT.out.below hW) (KA.out.below hW).rd ha.byt ha.le ha.cap (KL.out.below hW).rd hl.byt hl.le hl.cap
  have HBL := Aside0.mk fun W (hW : Below (boxed w t).heap.size (boxed w t) W) => bound_any t ht w.heap.size L cl low W (HT.out.below hW) (boxed_cell w t W hW) (KL.out.below hW).rd hl.byt hl.le hl.cap
  have HBU := Aside0.mk fun W (hW : Below (boxed w t).heap.size (boxed w t) W) => bound_any t ht w.heap.size U cu high W (HT.out.below hW) (boxed_cell w t W hW) (KU.out.below hW).rd hh.byt hh.le hh.cap
  clear h ha hl hh HT KA KL KU
  simp only [hp] at HP
  obtain ⟨⟨v1, v2⟩, hv⟩ : ∃ v, cmpC t b b = v := ⟨_, rfl⟩
  obtain ⟨⟨x1, x2⟩, hx⟩ : ∃ v, cmpC t b high = v := ⟨_, rfl⟩
  obtain ⟨⟨y1, y2⟩, hy⟩ : ∃ v, cmpC t b low = v := ⟨_, rfl⟩
  simp only [hv] at HC0 h2
  simp only [hx] at HCU hx0
  simp only [hy] at HCL hy0
  clear hp hv hx hy
  subst h2
  simp only [hbl, decide_true] at HBL
  simp only [hbh, decide_true] at HBU
  have hx1 : decide ((0 : Int) < x1) = false := by simpa using hx0
  have hy1 : decide (y1 < (0 : Int)) = true := by simpa using hy0
  generalize b.length = nb at *
  generalize low.length = nl at *
  generalize high.length = nh at *
  go_enter Tryd.func78, Tryd.ntmps78
  go_wp2_with (first
    | (go_at_call 115; (with_reducible refine (HP.out _ HB.out).mono ?_); rintro e w1 ⟨rfl, hb⟩; replace HB := Aside0.mk (HB.out.trans (hb.mono HB.out.size)); have hc1 := boxed_cell w t _ HB.out; clear hb)
    | (go_at_call 117; (with_reducible refine (HC0.out _ HB.out).mono ?_); rintro e w2 ⟨rfl, hb⟩; replace HB := Aside0.mk (HB.out.trans (hb.mono HB.out.size)); have hc2 := boxed_cell w t _ HB.out; clear hb)
    | (go_at_call 117; (with_reducible refine (HCU.out _ HB.out).mono ?_); rintro e w3 ⟨rfl, hb⟩; replace HB := Aside0.mk (HB.out.trans (hb.mono HB.out.size)); have hc3 := boxed_cell w t _ HB.out; clear hb)
    | (go_at_call 117; (with_reducible refine (HCL.out _ HB.out).mono ?_); rintro e w4 ⟨rfl, hb⟩; replace HB := Aside0.mk (HB.out.trans (hb.mono HB.out.size)); have hc4 := boxed_cell w t _ HB.out; clear hb)
    | (go_at_call 116; (with_reducible refine (HBL.out _ HB.out).mono ?_); rintro e w5 ⟨rfl, hb⟩; replace HB := Aside0.mk (HB.out.trans (hb.mono HB.out.size)); have hc5 := boxed_cell w t _ HB.out; clear hb)
    | (go_at_call 116; (with_reducible refine (HBU.out _ HB.out).mono ?_); rintro e w6 ⟨rfl, hb⟩; replace HB := Aside0.mk (HB.out.trans (hb.mono HB.out.size)); have hc6 := boxed_cell w t _ HB.out; clear hb))
  go_ret
  exact ⟨rfl, hb0.trans (HB.out.mono (by simp))⟩
set_option maxRecDepth 100000 in
set_option maxHeartbeats 2000000 in
theorem check_6 (ht : 0 ≤ t ∧ t < 256) (h : Tbl w) (ha : Arg w A c b) (hl : Arg w L cl low) (hh : Arg w U cu high) (hp : plainC t b = 0) (h2 : (cmpC t b b).2 = true) (hbl : bndC t low) (hbh : bndC t high) (hx0 : ¬ 0 < (cmpC t b high).1) (hy0 : ¬ (cmpC t b low).1 < 0) :
    Calls Tryd.prog 78 #[.int .u8 t, .slice A b.length c, .slice L low.length cl, .slice U high.length cu] w (ChkSaid w 0) := by
  have hb0 : Below w.heap.size w (boxed w t) := below_alloc (Below.refl _ _) _
  have HT := Aside0.mk (h.below hb0)
  have KA := Aside0.mk (ha.below hb0)
  have KL := Aside0.mk (hl.below hb0)
  have KU := Aside0.mk (hh.below hb0)
  have HB := Aside0.mk (Below.refl (boxed w t).heap.size (boxed w t))
  have HP := Aside0.mk fun W (hW : Below (boxed w t).heap.size (boxed w t) W) => plain_any t ht A c b W (HT.out.below hW) (KA.out.below hW).rd ha.byt ha.le ha.cap
  have HC0 := Aside0.mk fun W (hW : Below (boxed w t).heap.size (boxed w t) W) => compare_any t ht A c b A c b W (HT.out.below hW) (KA.out.below hW).rd ha.byt ha.le ha.cap (KA.out.below hW).rd ha.byt ha.le ha.cap
  have HCU := Aside0.mk fun W (hW : Below (boxed w t).heap.size (boxed w t) W) => compare_any t ht A c b U cu high W (HT.out.below hW) (KA.out.below hW).rd ha.byt ha.le ha.cap (KU.out.below hW).rd hh.byt hh.le hh.cap
  have HCL := Aside0.mk fun W (hW : Below (boxed w t).heap.size (boxed w t) W) => compare_any t ht A c b L cl low W (HT.out.below hW) (KA.out.below hW).rd ha.byt ha.le ha.cap (KL.out.below hW).rd hl.byt hl.le hl.cap
  have HBL := Aside0.mk fun W (hW : Below (boxed w t).heap.size (boxed w t) W) => bound_any t ht w.heap.size L cl low W (HT.out.below hW) (boxed_cell w t W hW) (KL.out.below hW).rd hl.byt hl.le hl.cap
  have HBU := Aside0.mk fun W (hW : Below (boxed w t).heap.size (boxed w t) W) => bound_any t ht w.heap.size U cu high W (HT.out.below hW) (boxed_cell w t W hW) (KU.out.below hW).rd hh.byt hh.le hh.cap
  clear h ha hl hh HT KA KL KU
  simp only [hp] at HP
  obtain ⟨⟨v1, v2⟩, hv⟩ : ∃ v, cmpC t b b = v := ⟨_, rfl⟩
  obtain ⟨⟨x1, x2⟩, hx⟩ : ∃ v, cmpC t b high = v := ⟨_, rfl⟩
  obtain ⟨⟨y1, y2⟩, hy⟩ : ∃ v, cmpC t b low = v := ⟨_, rfl⟩
  simp only [hv] at HC0 h2
  simp only [hx] at HCU hx0
  simp only [hy] at HCL hy0
  clear hp hv hx hy
  subst h2
  simp only [hbl, decide_true] at HBL
  simp only [hbh, decide_true] at HBU
  have hx1 : decide ((0 : Int) < x1) = false := by simpa using hx0
  have hy1 : decide (y1 < (0 : Int)) = false := by simpa using hy0
  generalize b.length = nb at *
  generalize low.length = nl at *
  generalize high.length = nh at *
  go_enter Tryd.func78, Tryd.ntmps78
  go_wp2_with (first
    | (go_at_call 115; (with_reducible refine (HP.out _ HB.out).mono ?_); rintro e w1 ⟨rfl, hb⟩; replace HB := Aside0.mk (HB.out.trans (hb.mono HB.out.size)); have hc1 := boxed_cell w t _ HB.out; clear hb)
    | (go_at_call 117; (with_reducible refine (HC0.out _ HB.out).mono ?_); rintro e w2 ⟨rfl, hb⟩; replace HB := Aside0.mk (HB.out.trans (hb.mono HB.out.size)); have hc2 := boxed_cell w t _ HB.out; clear hb)
    | (go_at_call 117; (with_reducible refine (HCU.out _ HB.out).mono ?_); rintro e w3 ⟨rfl, hb⟩; replace HB := Aside0.mk (HB.out.trans (hb.mono HB.out.size)); have hc3 := boxed_cell w t _ HB.out; clear hb)
    | (go_at_call 117; (with_reducible refine (HCL.out _ HB.out).mono ?_); rintro e w4 ⟨rfl, hb⟩; replace HB := Aside0.mk (HB.out.trans (hb.mono HB.out.size)); have hc4 := boxed_cell w t _ HB.out; clear hb)
    | (go_at_call 116; (with_reducible refine (HBL.out _ HB.out).mono ?_); rintro e w5 ⟨rfl, hb⟩; replace HB := Aside0.mk (HB.out.trans (hb.mono HB.out.size)); have hc5 := boxed_cell w t _ HB.out; clear hb)
    | (go_at_call 116; (with_reducible refine (HBU.out _ HB.out).mono ?_); rintro e w6 ⟨rfl, hb⟩; replace HB := Aside0.mk (HB.out.trans (hb.mono HB.out.size)); have hc6 := boxed_cell w t _ HB.out; clear hb))
  go_ret
  exact ⟨rfl, hb0.trans (HB.out.mono (by simp))⟩
set_option maxRecDepth 100000 in
set_option maxHeartbeats 2000000 in
theorem check_7 (ht : 0 ≤ t ∧ t < 256) (h : Tbl w) (ha : Arg w A c b) (hl : Arg w L cl low) (hh : Arg w U cu high) (hp : plainC t b = 0) (h2 : (cmpC t b b).2 = true) (hbl : ¬ bndC t low) (hbh : bndC t high) (hx0 : ¬ 0 < (cmpC t b high).1) :
    Calls Tryd.prog 78 #[.int .u8 t, .slice A b.length c, .slice L low.length cl, .slice U high.length cu] w (ChkSaid w 0) := by
  have hb0 : Below w.heap.size w (boxed w t) := below_alloc (Below.refl _ _) _
  have HT := Aside0.mk (h.below hb0)
  have KA := Aside0.mk (ha.below hb0)
  have KL := Aside0.mk (hl.below hb0)
  have KU := Aside0.mk (hh.below hb0)
  have HB := Aside0.mk (Below.refl (boxed w t).heap.size (boxed w t))
  have HP := Aside0.mk fun W (hW : Below (boxed w t).heap.size (boxed w t) W) => plain_any t ht A c b W (HT.out.below hW) (KA.out.below hW).rd ha.byt ha.le ha.cap
  have HC0 := Aside0.mk fun W (hW : Below (boxed w t).heap.size (boxed w t) W) => compare_any t ht A c b A c b W (HT.out.below hW) (KA.out.below hW).rd ha.byt ha.le ha.cap (KA.out.below hW).rd ha.byt ha.le ha.cap
  have HCU := Aside0.mk fun W (hW : Below (boxed w t).heap.size (boxed w t) W) => compare_any t ht A c b U cu high W (HT.out.below hW) (KA.out.below hW).rd ha.byt ha.le ha.cap (KU.out.below hW).rd hh.byt hh.le hh.cap
  have HCL := Aside0.mk fun W (hW : Below (boxed w t).heap.size (boxed w t) W) => compare_any t ht A c b L cl low W (HT.out.below hW) (KA.out.below hW).rd ha.byt ha.le ha.cap (KL.out.below hW).rd hl.byt hl.le hl.cap
  have HBL := Aside0.mk fun W (hW : Below (boxed w t).heap.size (boxed w t) W) => bound_any t ht w.heap.size L cl low W (HT.out.below hW) (boxed_cell w t W hW) (KL.out.below hW).rd hl.byt hl.le hl.cap
  have HBU := Aside0.mk fun W (hW : Below (boxed w t).heap.size (boxed w t) W) => bound_any t ht w.heap.size U cu high W (HT.out.below hW) (boxed_cell w t W hW) (KU.out.below hW).rd hh.byt hh.le hh.cap
  clear h ha hl hh HT KA KL KU
  simp only [hp] at HP
  obtain ⟨⟨v1, v2⟩, hv⟩ : ∃ v, cmpC t b b = v := ⟨_, rfl⟩
  obtain ⟨⟨x1, x2⟩, hx⟩ : ∃ v, cmpC t b high = v := ⟨_, rfl⟩
  obtain ⟨⟨y1, y2⟩, hy⟩ : ∃ v, cmpC t b low = v := ⟨_, rfl⟩
  simp only [hv] at HC0 h2
  simp only [hx] at HCU hx0
  simp only [hy] at HCL
  clear hp hv hx hy
  subst h2
  simp only [hbl, decide_false] at HBL
  simp only [hbh, decide_true] at HBU
  have hx1 : decide ((0 : Int) < x1) = false := by simpa using hx0
  generalize b.length = nb at *
  generalize low.length = nl at *
  generalize high.length = nh at *
  go_enter Tryd.func78, Tryd.ntmps78
  go_wp2_with (first
    | (go_at_call 115; (with_reducible refine (HP.out _ HB.out).mono ?_); rintro e w1 ⟨rfl, hb⟩; replace HB := Aside0.mk (HB.out.trans (hb.mono HB.out.size)); have hc1 := boxed_cell w t _ HB.out; clear hb)
    | (go_at_call 117; (with_reducible refine (HC0.out _ HB.out).mono ?_); rintro e w2 ⟨rfl, hb⟩; replace HB := Aside0.mk (HB.out.trans (hb.mono HB.out.size)); have hc2 := boxed_cell w t _ HB.out; clear hb)
    | (go_at_call 117; (with_reducible refine (HCU.out _ HB.out).mono ?_); rintro e w3 ⟨rfl, hb⟩; replace HB := Aside0.mk (HB.out.trans (hb.mono HB.out.size)); have hc3 := boxed_cell w t _ HB.out; clear hb)
    | (go_at_call 117; (with_reducible refine (HCL.out _ HB.out).mono ?_); rintro e w4 ⟨rfl, hb⟩; replace HB := Aside0.mk (HB.out.trans (hb.mono HB.out.size)); have hc4 := boxed_cell w t _ HB.out; clear hb)
    | (go_at_call 116; (with_reducible refine (HBL.out _ HB.out).mono ?_); rintro e w5 ⟨rfl, hb⟩; replace HB := Aside0.mk (HB.out.trans (hb.mono HB.out.size)); have hc5 := boxed_cell w t _ HB.out; clear hb)
    | (go_at_call 116; (with_reducible refine (HBU.out _ HB.out).mono ?_); rintro e w6 ⟨rfl, hb⟩; replace HB := Aside0.mk (HB.out.trans (hb.mono HB.out.size)); have hc6 := boxed_cell w t _ HB.out; clear hb))
  go_ret
  exact ⟨rfl, hb0.trans (HB.out.mono (by simp))⟩
set_option maxRecDepth 100000 in
set_option maxHeartbeats 2000000 in
theorem check_8 (ht : 0 ≤ t ∧ t < 256) (h : Tbl w) (ha : Arg w A c b) (hl : Arg w L cl low) (hh : Arg w U cu high) (hp : plainC t b = 0) (h2 : (cmpC t b b).2 = true) (hbl : bndC t low) (hbh : ¬ bndC t high) (hy0 : (cmpC t b low).1 < 0) :
    Calls Tryd.prog 78 #[.int .u8 t, .slice A b.length c, .slice L low.length cl, .slice U high.length cu] w (ChkSaid w 0x06090032) := by
  have hb0 : Below w.heap.size w (boxed w t) := below_alloc (Below.refl _ _) _
  have HT := Aside0.mk (h.below hb0)
  have KA := Aside0.mk (ha.below hb0)
  have KL := Aside0.mk (hl.below hb0)
  have KU := Aside0.mk (hh.below hb0)
  have HB := Aside0.mk (Below.refl (boxed w t).heap.size (boxed w t))
  have HP := Aside0.mk fun W (hW : Below (boxed w t).heap.size (boxed w t) W) => plain_any t ht A c b W (HT.out.below hW) (KA.out.below hW).rd ha.byt ha.le ha.cap
  have HC0 := Aside0.mk fun W (hW : Below (boxed w t).heap.size (boxed w t) W) => compare_any t ht A c b A c b W (HT.out.below hW) (KA.out.below hW).rd ha.byt ha.le ha.cap (KA.out.below hW).rd ha.byt ha.le ha.cap
  have HCU := Aside0.mk fun W (hW : Below (boxed w t).heap.size (boxed w t) W) => compare_any t ht A c b U cu high W (HT.out.below hW) (KA.out.below hW).rd ha.byt ha.le ha.cap (KU.out.below hW).rd hh.byt hh.le hh.cap
  have HCL := Aside0.mk fun W (hW : Below (boxed w t).heap.size (boxed w t) W) => compare_any t ht A c b L cl low W (HT.out.below hW) (KA.out.below hW).rd ha.byt ha.le ha.cap (KL.out.below hW).rd hl.byt hl.le hl.cap
  have HBL := Aside0.mk fun W (hW : Below (boxed w t).heap.size (boxed w t) W) => bound_any t ht w.heap.size L cl low W (HT.out.below hW) (boxed_cell w t W hW) (KL.out.below hW).rd hl.byt hl.le hl.cap
  have HBU := Aside0.mk fun W (hW : Below (boxed w t).heap.size (boxed w t) W) => bound_any t ht w.heap.size U cu high W (HT.out.below hW) (boxed_cell w t W hW) (KU.out.below hW).rd hh.byt hh.le hh.cap
  clear h ha hl hh HT KA KL KU
  simp only [hp] at HP
  obtain ⟨⟨v1, v2⟩, hv⟩ : ∃ v, cmpC t b b = v := ⟨_, rfl⟩
  obtain ⟨⟨x1, x2⟩, hx⟩ : ∃ v, cmpC t b high = v := ⟨_, rfl⟩
  obtain ⟨⟨y1, y2⟩, hy⟩ : ∃ v, cmpC t b low = v := ⟨_, rfl⟩
  simp only [hv] at HC0 h2
  simp only [hx] at HCU
  simp only [hy] at HCL hy0
  clear hp hv hx hy
  subst h2
  simp only [hbl, decide_true] at HBL
  simp only [hbh, decide_false] at HBU
  have hy1 : decide (y1 < (0 : Int)) = true := by simpa using hy0
  generalize b.length = nb at *
  generalize low.length = nl at *
  generalize high.length = nh at *
  go_enter Tryd.func78, Tryd.ntmps78
  go_wp2_with (first
    | (go_at_call 115; (with_reducible refine (HP.out _ HB.out).mono ?_); rintro e w1 ⟨rfl, hb⟩; replace HB := Aside0.mk (HB.out.trans (hb.mono HB.out.size)); have hc1 := boxed_cell w t _ HB.out; clear hb)
    | (go_at_call 117; (with_reducible refine (HC0.out _ HB.out).mono ?_); rintro e w2 ⟨rfl, hb⟩; replace HB := Aside0.mk (HB.out.trans (hb.mono HB.out.size)); have hc2 := boxed_cell w t _ HB.out; clear hb)
    | (go_at_call 117; (with_reducible refine (HCU.out _ HB.out).mono ?_); rintro e w3 ⟨rfl, hb⟩; replace HB := Aside0.mk (HB.out.trans (hb.mono HB.out.size)); have hc3 := boxed_cell w t _ HB.out; clear hb)
    | (go_at_call 117; (with_reducible refine (HCL.out _ HB.out).mono ?_); rintro e w4 ⟨rfl, hb⟩; replace HB := Aside0.mk (HB.out.trans (hb.mono HB.out.size)); have hc4 := boxed_cell w t _ HB.out; clear hb)
    | (go_at_call 116; (with_reducible refine (HBL.out _ HB.out).mono ?_); rintro e w5 ⟨rfl, hb⟩; replace HB := Aside0.mk (HB.out.trans (hb.mono HB.out.size)); have hc5 := boxed_cell w t _ HB.out; clear hb)
    | (go_at_call 116; (with_reducible refine (HBU.out _ HB.out).mono ?_); rintro e w6 ⟨rfl, hb⟩; replace HB := Aside0.mk (HB.out.trans (hb.mono HB.out.size)); have hc6 := boxed_cell w t _ HB.out; clear hb))
  go_ret
  exact ⟨rfl, hb0.trans (HB.out.mono (by simp))⟩
set_option maxRecDepth 100000 in
set_option maxHeartbeats 2000000 in
theorem check_9 (ht : 0 ≤ t ∧ t < 256) (h : Tbl w) (ha : Arg w A c b) (hl : Arg w L cl low) (hh : Arg w U cu high) (hp : plainC t b = 0) (h2 : (cmpC t b b).2 = true) (hbl : bndC t low) (hbh : ¬ bndC t high) (hy0 : ¬ (cmpC t b low).1 < 0) :
    Calls Tryd.prog 78 #[.int .u8 t, .slice A b.length c, .slice L low.length cl, .slice U high.length cu] w (ChkSaid w 0) := by
  have hb0 : Below w.heap.size w (boxed w t) := below_alloc (Below.refl _ _) _
  have HT := Aside0.mk (h.below hb0)
  have KA := Aside0.mk (ha.below hb0)
  have KL := Aside0.mk (hl.below hb0)
  have KU := Aside0.mk (hh.below hb0)
  have HB := Aside0.mk (Below.refl (boxed w t).heap.size (boxed w t))
  have HP := Aside0.mk fun W (hW : Below (boxed w t).heap.size (boxed w t) W) => plain_any t ht A c b W (HT.out.below hW) (KA.out.below hW).rd ha.byt ha.le ha.cap
  have HC0 := Aside0.mk fun W (hW : Below (boxed w t).heap.size (boxed w t) W) => compare_any t ht A c b A c b W (HT.out.below hW) (KA.out.below hW).rd ha.byt ha.le ha.cap (KA.out.below hW).rd ha.byt ha.le ha.cap
  have HCU := Aside0.mk fun W (hW : Below (boxed w t).heap.size (boxed w t) W) => compare_any t ht A c b U cu high W (HT.out.below hW) (KA.out.below hW).rd ha.byt ha.le ha.cap (KU.out.below hW).rd hh.byt hh.le hh.cap
  have HCL := Aside0.mk fun W (hW : Below (boxed w t).heap.size (boxed w t) W) => compare_any t ht A c b L cl low W (HT.out.below hW) (KA.out.below hW).rd ha.byt ha.le ha.cap (KL.out.below hW).rd hl.byt hl.le hl.cap
  have HBL := Aside0.mk fun W (hW : Below (boxed w t).heap.size (boxed w t) W) => bound_any t ht w.heap.size L cl low W (HT.out.below hW) (boxed_cell w t W hW) (KL.out.below hW).rd hl.byt hl.le hl.cap
  have HBU := Aside0.mk fun W (hW : Below (boxed w t).heap.size (boxed w t) W) => bound_any t ht w.heap.size U cu high W (HT.out.below hW) (boxed_cell w t W hW) (KU.out.below hW).rd hh.byt hh.le hh.cap
  clear h ha hl hh HT KA KL KU
  simp only [hp] at HP
  obtain ⟨⟨v1, v2⟩, hv⟩ : ∃ v, cmpC t b b = v := ⟨_, rfl⟩
  obtain ⟨⟨x1, x2⟩, hx⟩ : ∃ v, cmpC t b high = v := ⟨_, rfl⟩
  obtain ⟨⟨y1, y2⟩, hy⟩ : ∃ v, cmpC t b low = v := ⟨_, rfl⟩
  simp only [hv] at HC0 h2
  simp only [hx] at HCU
  simp only [hy] at HCL hy0
  clear hp hv hx hy
  subst h2
  simp only [hbl, decide_true] at HBL
  simp only [hbh, decide_false] at HBU
  have hy1 : decide (y1 < (0 : Int)) = false := by simpa using hy0
  generalize b.length = nb at *
  generalize low.length = nl at *
  generalize high.length = nh at *
  go_enter Tryd.func78, Tryd.ntmps78
  go_wp2_with (first
    | (go_at_call 115; (with_reducible refine (HP.out _ HB.out).mono ?_); rintro e w1 ⟨rfl, hb⟩; replace HB := Aside0.mk (HB.out.trans (hb.mono HB.out.size)); have hc1 := boxed_cell w t _ HB.out; clear hb)
    | (go_at_call 117; (with_reducible refine (HC0.out _ HB.out).mono ?_); rintro e w2 ⟨rfl, hb⟩; replace HB := Aside0.mk (HB.out.trans (hb.mono HB.out.size)); have hc2 := boxed_cell w t _ HB.out; clear hb)
    | (go_at_call 117; (with_reducible refine (HCU.out _ HB.out).mono ?_); rintro e w3 ⟨rfl, hb⟩; replace HB := Aside0.mk (HB.out.trans (hb.mono HB.out.size)); have hc3 := boxed_cell w t _ HB.out; clear hb)
    | (go_at_call 117; (with_reducible refine (HCL.out _ HB.out).mono ?_); rintro e w4 ⟨rfl, hb⟩; replace HB := Aside0.mk (HB.out.trans (hb.mono HB.out.size)); have hc4 := boxed_cell w t _ HB.out; clear hb)
    | (go_at_call 116; (with_reducible refine (HBL.out _ HB.out).mono ?_); rintro e w5 ⟨rfl, hb⟩; replace HB := Aside0.mk (HB.out.trans (hb.mono HB.out.size)); have hc5 := boxed_cell w t _ HB.out; clear hb)
    | (go_at_call 116; (with_reducible refine (HBU.out _ HB.out).mono ?_); rintro e w6 ⟨rfl, hb⟩; replace HB := Aside0.mk (HB.out.trans (hb.mono HB.out.size)); have hc6 := boxed_cell w t _ HB.out; clear hb))
  go_ret
  exact ⟨rfl, hb0.trans (HB.out.mono (by simp))⟩
set_option maxRecDepth 100000 in
set_option maxHeartbeats 2000000 in
theorem check_10 (ht : 0 ≤ t ∧ t < 256) (h : Tbl w) (ha : Arg w A c b) (hl : Arg w L cl low) (hh : Arg w U cu high) (hp : plainC t b = 0) (h2 : (cmpC t b b).2 = true) (hbl : ¬ bndC t low) (hbh : ¬ bndC t high) :
    Calls Tryd.prog 78 #[.int .u8 t, .slice A b.length c, .slice L low.length cl, .slice U high.length cu] w (ChkSaid w 0) := by
  have hb0 : Below w.heap.size w (boxed w t) := below_alloc (Below.refl _ _) _
  have HT := Aside0.mk (h.below hb0)
  have KA := Aside0.mk (ha.below hb0)
  have KL := Aside0.mk (hl.below hb0)
  have KU := Aside0.mk (hh.below hb0)
  have HB := Aside0.mk (Below.refl (boxed w t).heap.size (boxed w t))
  have HP := Aside0.mk fun W (hW : Below (boxed w t).heap.size (boxed w t) W) => plain_any t ht A c b W (HT.out.below hW) (KA.out.below hW).rd ha.byt ha.le ha.cap
  have HC0 := Aside0.mk fun W (hW : Below (boxed w t).heap.size (boxed w t) W) => compare_any t ht A c b A c b W (HT.out.below hW) (KA.out.below hW).rd ha.byt ha.le ha.cap (KA.out.below hW).rd ha.byt ha.le ha.cap
  have HCU := Aside0.mk fun W (hW : Below (boxed w t).heap.size (boxed w t) W) => compare_any t ht A c b U cu high W (HT.out.below hW) (KA.out.below hW).rd ha.byt ha.le ha.cap (KU.out.below hW).rd hh.byt hh.le hh.cap
  have HCL := Aside0.mk fun W (hW : Below (boxed w t).heap.size (boxed w t) W) => compare_any t ht A c b L cl low W (HT.out.below hW) (KA.out.below hW).rd ha.byt ha.le ha.cap (KL.out.below hW).rd hl.byt hl.le hl.cap
  have HBL := Aside0.mk fun W (hW : Below (boxed w t).heap.size (boxed w t) W) => bound_any t ht w.heap.size L cl low W (HT.out.below hW) (boxed_cell w t W hW) (KL.out.below hW).rd hl.byt hl.le hl.cap
  have HBU := Aside0.mk fun W (hW : Below (boxed w t).heap.size (boxed w t) W) => bound_any t ht w.heap.size U cu high W (HT.out.below hW) (boxed_cell w t W hW) (KU.out.below hW).rd hh.byt hh.le hh.cap
  clear h ha hl hh HT KA KL KU
  simp only [hp] at HP
  obtain ⟨⟨v1, v2⟩, hv⟩ : ∃ v, cmpC t b b = v := ⟨_, rfl⟩
  obtain ⟨⟨x1, x2⟩, hx⟩ : ∃ v, cmpC t b high = v := ⟨_, rfl⟩
  obtain ⟨⟨y1, y2⟩, hy⟩ : ∃ v, cmpC t b low = v := ⟨_, rfl⟩
  simp only [hv] at HC0 h2
  simp only [hx] at HCU
  simp only [hy] at HCL
  clear hp hv hx hy
  subst h2
  simp only [hbl, decide_false] at HBL
  simp only [hbh, decide_false] at HBU
  generalize b.length = nb at *
  generalize low.length = nl at *
  generalize high.length = nh at *
  go_enter Tryd.func78, Tryd.ntmps78
  go_wp2_with (first
    | (go_at_call 115; (with_reducible refine (HP.out _ HB.out).mono ?_); rintro e w1 ⟨rfl, hb⟩; replace HB := Aside0.mk (HB.out.trans (hb.mono HB.out.size)); have hc1 := boxed_cell w t _ HB.out; clear hb)
    | (go_at_call 117; (with_reducible refine (HC0.out _ HB.out).mono ?_); rintro e w2 ⟨rfl, hb⟩; replace HB := Aside0.mk (HB.out.trans (hb.mono HB.out.size)); have hc2 := boxed_cell w t _ HB.out; clear hb)
    | (go_at_call 117; (with_reducible refine (HCU.out _ HB.out).mono ?_); rintro e w3 ⟨rfl, hb⟩; replace HB := Aside0.mk (HB.out.trans (hb.mono HB.out.size)); have hc3 := boxed_cell w t _ HB.out; clear hb)
    | (go_at_call 117; (with_reducible refine (HCL.out _ HB.out).mono ?_); rintro e w4 ⟨rfl, hb⟩; replace HB := Aside0.mk (HB.out.trans (hb.mono HB.out.size)); have hc4 := boxed_cell w t _ HB.out; clear hb)
    | (go_at_call 116; (with_reducible refine (HBL.out _ HB.out).mono ?_); rintro e w5 ⟨rfl, hb⟩; replace HB := Aside0.mk (HB.out.trans (hb.mono HB.out.size)); have hc5 := boxed_cell w t _ HB.out; clear hb)
    | (go_at_call 116; (with_reducible refine (HBU.out _ HB.out).mono ?_); rintro e w6 ⟨rfl, hb⟩; replace HB := Aside0.mk (HB.out.trans (hb.mono HB.out.size)); have hc6 := boxed_cell w t _ HB.out; clear hb))
  go_ret
  exact ⟨rfl, hb0.trans (HB.out.mono (by simp))⟩
theorem check_any (t : Int) (ht : 0 ≤ t ∧ t < 256) (A : Option Addr) (c : Nat) (b : List Int) (L : Option Addr) (cl : Nat) (low : List Int) (U : Option Addr) (cu : Nat) (high : List Int) (w : World)
    (h : Tbl w) (ha : Arg w A c b) (hl : Arg w L cl low) (hh : Arg w U cu high) :
    Calls Tryd.prog 78 #[.int .u8 t, .slice A b.length c, .slice L low.length cl, .slice U high.length cu] w (ChkSaid w (chkC t b low high)) := by
  by_cases hp : plainC t b = 0
  · unfold chkC
    rw [if_neg (by simp [hp])]
    by_cases hbl : bndC t low <;> by_cases hbh : bndC t high <;> cases h2 : (cmpC t b b).2
    · rw [if_pos ⟨rfl, .inl hbl⟩]
      exact check_1 t A c b L cl low U cu high w ht h ha hl hh hp h2 hbl
    · rw [if_neg (by simp)]
      by_cases hx : 0 < (cmpC t b high).1
      · rw [if_pos ⟨hbh, hx⟩]
        exact check_4 t A c b L cl low U cu high w ht h ha hl hh hp h2 hbh hx
      · rw [if_neg (fun e => hx e.2)]
        by_cases hy : (cmpC t b low).1 < 0
        · rw [if_pos ⟨hbl, hy⟩]
          exact check_5 t A c b L cl low U cu high w ht h ha hl hh hp h2 hbl hbh hx hy
        · rw [if_neg (fun e => hy e.2)]
          exact check_6 t A c b L cl low U cu high w ht h ha hl hh hp h2 hbl hbh hx hy
    · rw [if_pos ⟨rfl, .inl hbl⟩]
      exact check_1 t A c b L cl low U cu high w ht h ha hl hh hp h2 hbl
    · rw [if_neg (by simp), if_neg (fun e => hbh e.1)]
      by_cases hy : (cmpC t b low).1 < 0
      · rw [if_pos ⟨hbl, hy⟩]
        exact check_8 t A c b L cl low U cu high w ht h ha hl hh hp h2 hbl hbh hy
      · rw [if_neg (fun e => hy e.2)]
        exact check_9 t A c b L cl low U cu high w ht h ha hl hh hp h2 hbl hbh hy
    · rw [if_pos ⟨rfl, .inr hbh⟩]
      exact check_2 t A c b L cl low U cu high w ht h ha hl hh hp h2 hbl hbh
    · rw [if_neg (by simp)]
      by_cases hx : 0 < (cmpC t b high).1
      · rw [if_pos ⟨hbh, hx⟩]
        exact check_4 t A c b L cl low U cu high w ht h ha hl hh hp h2 hbh hx
      · rw [if_neg (fun e => hx e.2), if_neg (fun e => hbl e.1)]
        exact check_7 t A c b L cl low U cu high w ht h ha hl hh hp h2 hbl hbh hx
    · rw [if_neg (fun e => e.2.elim hbl hbh), if_neg (fun e => hbh e.1), if_neg (fun e => hbl e.1)]
      exact check_3 t A c b L cl low U cu high w ht h ha hl hh hp h2 hbl hbh
    · rw [if_neg (by simp), if_neg (fun e => hbh e.1), if_neg (fun e => hbl e.1)]
      exact check_10 t A c b L cl low U cu high w ht h ha hl hh hp h2 hbl hbh
  · unfold chkC
    rw [if_pos hp]
    exact check_p t A c b L cl low U cu high w ht h ha hl hh hp
end
end Go.Proofs.YtokebpeplopjhaaDoor.Mp
