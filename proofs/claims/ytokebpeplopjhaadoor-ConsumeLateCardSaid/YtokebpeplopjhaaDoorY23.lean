/- The law's producer is set, and starts; the law's example works. Law 14: an object is set, the consumer starts; the law's example works. ConsumeLate, walked. -/
import Derived.Test.YtokebpeplopjhaaDoorY22
import Derived.Test.YtokebpeplopjhaaDoorY14
import Derived.Test.YtokebpeplopjhaaDoorY13
import Derived.WalkLawsBesides
namespace Go.Proofs.YtokebpeplopjhaaDoor.Mp
open Go.RowKit Go.Shelf Go.Proofs.YtokebpeplopjhaaDoor.Rng Go.Proofs.YtokebpeplopjhaaDoorW.PrintWords Go.Proofs.YtokebpeplopjhaaDoorW.PrintMore Go.Proofs.YtokebpeplopjhaaDoorW.PrintLast

/-- What the producer is before it starts. -/
def SetOne (wd w : World) (g gd : Nat) (c : Cm) (e : Ending) (w' : World) : Prop := e = .returned (.int .u32 0) ∧ (∃ os vm vb, PrAt w' g (.pointer (some ⟨gd, 0, none⟩)) os vm vb false 0 ∧ os 0 = obI c false [] 0 0 (c.st == 0) ∧ ∀ k, 0 < k → os k = zOb) ∧ Below wd.heap.size wd w' ∧ Fr (fun k => k = g) w w'
theorem set_one {B : Nat} {wd w : World} {g gd bi bs : Nat} (hP : PrAt w g (.pointer (some ⟨gd, 0, none⟩)) (fun _ => zOb) (fun _ => .slice none 0 0) (fun _ => .slice none 0 0) false 0) (hD : DictB B wd gd bi bs d1) (hb : Below wd.heap.size wd w) (hg : wd.heap.size ≤ g) (ht : Tbl w) (gl : Nat) (hm : MsAt w (some ⟨gl, 0, none⟩) oneM) (hgl : gl ≠ g) (c : Cm) (hc : cmOk c) (hon : c.on = true) :
    Calls Tryd.prog 40 #[.pointer (some ⟨g, 0, none⟩), .int .i64 0, c.v, .slice (some ⟨gl, 0, none⟩) 1 1] w (SetOne wd w g gd c) := by
  refine (pset_yes B g gd bi bs d1 _ _ _ false 0 0 (by omega) c oneM (some ⟨gl, 0, none⟩) 1 w hP (hD.below hb) d1_good ht hm (fun ad e _ => by injection e with e; subst e; exact hgl) (by decide) oneM_ok hc hon oneD_d1.check).mono ?_
  rintro e w' ⟨rfl, ⟨vm, vb, h1⟩, h2⟩
  have hw := hb.size
  exact ⟨rfl, ⟨_, vm, vb, h1, rfl, fun k hk => upd_ne _ _ (by omega)⟩, hb.trans (fr_belowB h2 hw (fun k hk e => by have : k = g := e; omega)), h2⟩
def StartOne (B : Nat) (w : World) (g gd bi bs : Nat) (c : Cm) (e : Ending) (w' : World) : Prop := e = .returned (.tuple #[]) ∧ P1 B w' g gd bi bs 0 c false [] 0 0 (c.st == 0) ∧ Fr (fun k => k = g) w w'
theorem start_one {B : Nat} {wd w : World} {g gd bi bs : Nat} {os : Nat → Ob} {vm vb : Nat → Value} {c : Cm} (hP : PrAt w g (.pointer (some ⟨gd, 0, none⟩)) os vm vb false 0) (h0 : os 0 = obI c false [] 0 0 (c.st == 0)) (hk : ∀ k, 0 < k → os k = zOb) (hD : DictB B wd gd bi bs d1) (hb : Below wd.heap.size wd w) (hg : wd.heap.size ≤ g) :
    Calls Tryd.prog 43 #[.pointer (some ⟨g, 0, none⟩), .int .i64 0] w (StartOne B w g gd bi bs c) := by
  refine (pstart_any g _ os vm vb false 0 0 w hP ⟨by omega, by omega⟩).mono ?_
  rintro e w' ⟨rfl, ⟨os', vb', h1, h2⟩, h3⟩
  have hl := hD.lt
  have hge := hD.ge
  have hw := hb.size
  refine ⟨rfl, ⟨⟨d1, os', vm, vb', 0, h2, hD.below (hb.trans (fr_belowB h3 hw (fun k hk e => by have : k = g := e; omega))), oneD_d1, ?_, fun k h0 hk8 => ?_⟩, ⟨by omega, by omega, by omega⟩, by omega⟩, h3⟩
  · rw [h1 0 (by omega), h0]
    rfl
  · rw [h1 k hk8, hk k h0]
    exact ⟨rfl, rfl⟩
def cW : Cm := ⟨true, 385, 255, 10, 50, 0⟩
theorem snd0 : sndC cW false [] 0 0 0 = true := by decide
theorem snd5 : sndC cW true [0] 0 0 5 = false := by decide
theorem snd6 : sndC cW true [0] 0 7 6 = false := by decide
theorem snd10 : sndC cW true [0] 0 7 10 = true := by decide
theorem frg_bel {B g : Nat} {w w' : World} (h : Fr (fun k => k = g) w w') (hB : B ≤ w.heap.size) (hg : B ≤ g) : Below B w w' := fr_belowB h hB (fun k hk e => by have : k = g := e; omega)
/-- A row of one byte. -/
theorem argv_lit (w : World) (b : Int) (hb : 0 ≤ b ∧ b < 256) : ArgV (w.alloc (.cells #[.int .u8 b] 5)) (.slice (some ⟨w.heap.size, 0, none⟩) 1 1) [b] :=
  ⟨_, _, rfl, arg_new (w := w) [b] (by intro x hx; simp at hx; subst hx; exact hb) (by simp) rfl, by simp⟩
set_option maxRecDepth 100000 in
set_option maxHeartbeats 8000000 in
theorem works13_any (w : World) (ht : Tbl w) :
    Calls Tryd.prog 42 #[] w fun e w' => e = .returned (.bool true) ∧ Below w.heap.size w w' := by
  have HT := Aside0.mk ht
  clear ht
  have TK0 := Aside0.mk True.intro
  have TK5 := Aside0.mk True.intro
  have TK6 := Aside0.mk True.intro
  have TK10 := Aside0.mk True.intro
  have IS0 := Aside0.mk True.intro
  have IS10 := Aside0.mk True.intro
  go_enter Tryd.func42, Tryd.ntmps42
  go_wp2_with (first
    | (go_at_call 39; refine (began_any w.heap.size w HT.out (Nat.le_refl _)).mono ?_; rintro e w1 ⟨g, gd, bi, bs, wd, rfl, h1, h2, h3, h4, h5, HB1⟩; have H1 := Aside0.mk (And.intro h1 (And.intro h2 (And.intro h3 (And.intro h4 h5)))); replace HB1 := Aside0.mk HB1; have HG := Aside0.mk (show w.heap.size ≤ g by omega); clear h1 h2 h3 h4 h5)
    | (go_at_call 41; refine (lone_any w1).mono ?_; rintro e w2 ⟨gl, rfl, hgl, hm2, hb2⟩; have H2 := Aside0.mk (And.intro hgl (And.intro hm2 hb2)); have HB2 := Aside0.mk (HB1.out.trans (hb2.mono HB1.out.size)); clear hgl hm2 hb2)
    | (go_at_call 40; go_loud (refine (set_one (B := w.heap.size) (wd := wd) (bi := bi) (bs := bs) (H1.out.1.below H2.out.2.2) H1.out.2.1 (H1.out.2.2.1.trans (H2.out.2.2.mono H1.out.2.2.1.size)) H1.out.2.2.2.1 (HT.out.below HB2.out) gl H2.out.2.1 (by have := H1.out.1.lt; have := H2.out.1; omega) cW (by decide) rfl).mono ?_; rintro e w3 ⟨rfl, ⟨os, vm, vb, h1, h2, h3⟩, h4, h5⟩; have H3 := Aside0.mk (And.intro h1 (And.intro h2 (And.intro h3 h4))); have HB3 := Aside0.mk (HB2.out.trans (frg_bel h5 HB2.out.size HG.out)); clear h1 h2 h3 h4 h5))
    | (go_at_call 43; go_loud (refine (start_one (B := w.heap.size) (c := cW) H3.out.1 H3.out.2.1 H3.out.2.2.1 H1.out.2.1 H3.out.2.2.2 H1.out.2.2.2.1).mono ?_; rintro e w4 ⟨rfl, h1, h2⟩; have H4 := Aside0.mk h1; have HB4 := Aside0.mk (HB3.out.trans (frg_bel h2 HB3.out.size HG.out)); clear h1 h2))
    | (go_at_call 45; have _t := TK0; go_loud (refine (tick_yes H4.out (TblB.below HT.out HB4.out) (by decide) rfl 0 (by decide) (by decide) snd0).mono ?_; rintro e w5 ⟨A5, c5, rfl, hf, h1, h2⟩; have HFR5 := Aside0.mk hf; have H5 := Aside0.mk h1; have HB5 := Aside0.mk (HB4.out.trans (h1.bel h2 HB4.out.size)); clear hf h1 h2 _t TK0))
    | (go_at_call 46; have _t := IS0; go_loud (refine (is_one A5 c5 0 (by decide) w5 HFR5.out).mono ?_; rintro e w' ⟨rfl, hw⟩; subst hw; clear _t IS0))
    | (go_at_call 45; have _t := TK5; go_loud (refine (tick_no H5.out (TblB.below HT.out HB5.out) (by decide) rfl 5 (by decide) (by decide) snd5).mono ?_; rintro e w6 ⟨A6, c6, rfl, h1, h2⟩; have H6 := Aside0.mk h1; have HB6 := Aside0.mk (HB5.out.trans (h1.bel h2 HB5.out.size)); clear h1 h2 _t TK5))
    | (go_at_call 44; go_loud (refine (place_any w6).mono ?_; rintro e w7 ⟨rfl, hb⟩; have H7 := Aside0.mk (H6.out.below hb); have HB7 := Aside0.mk (HB6.out.trans (hb.mono HB6.out.size)); clear hb))
    | (go_at_call 20; go_loud (refine (write_one (H7.out.below (below_alloc (Below.refl _ _) _)) (TblB.below HT.out (HB7.out.trans ((below_alloc (Below.refl _ _) _).mono HB7.out.size))) (some ⟨w7.heap.size, 0, none⟩) 1 7 (argv_lit w7 7 (by decide))).mono ?_; rintro e w8 ⟨rfl, h1, h2⟩; have H8 := Aside0.mk h1; have HB8 := Aside0.mk ((HB7.out.trans ((below_alloc (Below.refl _ _) _).mono HB7.out.size)).trans (h1.bel h2 (Nat.le_trans HB7.out.size (by simp)))); clear h1 h2))
    | (go_at_call 45; have _t := TK6; go_loud (refine (tick_no H8.out (TblB.below HT.out HB8.out) (by decide) rfl 6 (by decide) (by decide) snd6).mono ?_; rintro e w9 ⟨A9, c9, rfl, h1, h2⟩; have H9 := Aside0.mk h1; have HB9 := Aside0.mk (HB8.out.trans (h1.bel h2 HB8.out.size)); clear h1 h2 _t TK6))
    | (go_at_call 45; have _t := TK10; go_loud (refine (tick_yes H9.out (TblB.below HT.out HB9.out) (by decide) rfl 10 (by decide) (by decide) snd10).mono ?_; rintro e w10 ⟨A10, c10, rfl, hf, h1, h2⟩; have HFR10 := Aside0.mk hf; have H10 := Aside0.mk h1; have HB10 := Aside0.mk (HB9.out.trans (h1.bel h2 HB9.out.size)); clear hf h1 h2 _t TK10))
    | (go_at_call 46; have _t := IS10; go_loud (refine (is_one A10 c10 7 (by decide) w10 HFR10.out).mono ?_; rintro e w' ⟨rfl, hw⟩; subst hw; clear _t IS10)))
  go_ret
  exact ⟨rfl, HB10.out⟩
end Go.Proofs.YtokebpeplopjhaaDoor.Mp
namespace Go.Proofs.YtokebpeplopjhaaDoor.Mp
open Go.RowKit Go.Shelf Go.Proofs.YtokebpeplopjhaaDoor.Rng Go.Proofs.YtokebpeplopjhaaDoorW.PrintWords Go.Proofs.YtokebpeplopjhaaDoorW.PrintMore Go.Proofs.YtokebpeplopjhaaDoorW.PrintLast

def Set14Said (wd w : World) (g gd p : Nat) (c : Cm) (e : Ending) (w' : World) : Prop := e = .returned (.int .u32 0) ∧ (∃ vm, CnAt w' g (.pointer (some ⟨gd, 0, none⟩)) (upd (fun _ => zCo) p (setCo c oneM)) vm false) ∧ Below wd.heap.size wd w' ∧ Fr (fun k => k = g) w w'
theorem set14 {B : Nat} {wd w : World} {g gd bi bs : Nat} (hP : CnAt w g (.pointer (some ⟨gd, 0, none⟩)) (fun _ => zCo) (fun _ => .slice none 0 0) false) (hD : DictB B wd gd bi bs d9) (hb : Below wd.heap.size wd w) (hg : wd.heap.size ≤ g) (ht : Tbl w) (gl : Nat) (hm : MsAt w (some ⟨gl, 0, none⟩) oneM) (hgl : gl ≠ g) (p : Nat) (hp : p < 8) (c : Cm) (hc : cmOk c) (hon : c.on = true) :
    Calls Tryd.prog 50 #[.pointer (some ⟨g, 0, none⟩), .int .i64 p, c.v, .slice (some ⟨gl, 0, none⟩) 1 1] w (Set14Said wd w g gd p c) := by
  refine (cset_yes B g gd bi bs d9 _ _ false p hp c oneM (some ⟨gl, 0, none⟩) 1 w hP (hD.below hb) d9_good ht hm (fun ad e _ => by injection e with e; subst e; exact hgl) (by decide) oneM_ok hc hon oneH_d9.check).mono ?_
  rintro e w' ⟨rfl, h1, h2⟩
  have hw := hb.size
  exact ⟨rfl, h1, hb.trans (fr_belowB h2 hw (fun k hk e => by have : k = g := e; omega)), h2⟩
def Start14Said (B : Nat) (w : World) (g gd bi bs p : Nat) (c : Cm) (e : Ending) (w' : World) : Prop := e = .returned (.tuple #[]) ∧ K1 B w' g gd bi bs p 0 c false 0 false ∧ Fr (fun k => k = g) w w'
theorem start14 {B : Nat} {wd w : World} {g gd bi bs p : Nat} {vm : Nat → Value} {c : Cm} (hP : CnAt w g (.pointer (some ⟨gd, 0, none⟩)) (upd (fun _ => zCo) p (setCo c oneM)) vm false) (hp : p < 8) (hD : DictB B wd gd bi bs d9) (hb : Below wd.heap.size wd w) (hg : wd.heap.size ≤ g) :
    Calls Tryd.prog 53 #[.pointer (some ⟨g, 0, none⟩)] w (Start14Said B w g gd bi bs p c) := by
  refine (cstart_any g _ _ vm false w hP).mono ?_
  rintro e w' ⟨rfl, ⟨os', h1, h2⟩, h3⟩
  have hl := hD.lt
  have hge := hD.ge
  have hw := hb.size
  refine ⟨rfl, ⟨⟨d9, os', vm, h2, hD.below (hb.trans (fr_belowB h3 hw (fun k hk e => by have : k = g := e; omega))), oneH_d9, hp, ?_, fun k hk hne => ?_⟩, ⟨by omega, by omega, by omega⟩, by omega⟩, h3⟩
  · rw [h1 p hp, upd_same]
    rfl
  · rw [h1 k hk, upd_ne _ _ hne]
    exact ⟨rfl, rfl⟩
/-- The dictionary and the consumer, as the law makes them. -/
structure New14 (B : Nat) (wd w : World) (g gd bi bs : Nat) : Prop where
  cn : CnAt w g (.pointer (some ⟨gd, 0, none⟩)) (fun _ => zCo) (fun _ => .slice none 0 0) false
  di : DictB B wd gd bi bs d9
  bw : Below wd.heap.size wd w
  ge : wd.heap.size ≤ g
  sz : B ≤ wd.heap.size
def cW14 : Cm := ⟨true, 513, 255, 0, 20, 0⟩
/-- A value of the dictionary, read. -/
theorem get14 {B : Nat} {w : World} {g gd bi bs p : Nat} {b : Int} {c : Cm} {hd : Bool} {a : Int} {lt : Bool} (h : K1 B w g gd bi bs p b c hd a lt) :
    Calls Tryd.prog 25 #[.pointer (some ⟨gd, 0, none⟩), pl 24576 1] w fun e w' => ∃ A cc, e = .returned (.tuple #[.slice A 1 cc, .bool true]) ∧ Rd w' A [b] ∧ Below w.heap.size w w' := by
  obtain ⟨⟨d, os, vm, h1, h2, h3, h4⟩, h5, h6⟩ := h
  obtain ⟨x, -, hf, -, -, -, -, hv⟩ := h3.find
  have hg := get_any B (.pointer (some ⟨gd, 0, none⟩)) (some d) 24576 1 (by decide) (by decide) w ⟨gd, rfl, h2.dict⟩
  rw [hf] at hg
  refine hg.mono ?_
  rintro e w' ⟨v, rfl, ⟨A, cc, rfl, ha, -⟩, hb⟩
  simp only [hv] at ha ⊢
  exact ⟨A, cc, rfl, ha.rd, hb⟩
set_option maxRecDepth 100000 in
set_option maxHeartbeats 8000000 in
theorem works14_any (w : World) (ht : Tbl w) :
    Calls Tryd.prog 52 #[] w fun e w' => e = .returned (.bool true) ∧ Below w.heap.size w w' := by
  have HT := Aside0.mk ht
  clear ht
  have T0 := Aside0.mk True.intro
  have I0 := Aside0.mk True.intro
  have F0 := Aside0.mk True.intro
  have e7 : strOfNums [7] = ⟨#[7]⟩ := by decide +kernel
  go_enter Tryd.func52, Tryd.ntmps52
  go_wp2_with (first
    | (go_at_call 48; go_loud (refine (entry14_any w).mono ?_; rintro e w1 ⟨ge, rfl, hE, hb⟩; have HE := Aside0.mk hE; have HB1 := Aside0.mk hb; clear hE hb))
    | (go_at_call 19; go_loud (refine (new_any w.heap.size hiE _ _ w1 HE.out (fun e he => (hiE_ok e he).1) (HT.out.below HB1.out) HB1.out.size (by decide) _ new9).mono ?_; rintro e w2 ⟨hb2, gd, bi, bs, rfl, hg, hbi, hbs, hD⟩; have HB2 := Aside0.mk (HB1.out.trans (hb2.mono HB1.out.size)); have HD := Aside0.mk hD; clear hb2 hg hbi hbs hD))
    | (go_at_call 49; go_loud (refine (cnew_any gd w2).mono ?_; rintro e w3 ⟨g, rfl, hg, hP, hb3⟩; have H3 := Aside0.mk (show New14 w.heap.size w2 w3 g gd bi bs from ⟨hP, HD.out, hb3, hg, HB2.out.size⟩); have HB3 := Aside0.mk (HB2.out.trans (hb3.mono HB2.out.size)); clear hP hb3 hg))
    | (go_at_call 51; refine (lone14_any _).mono ?_; rintro e w4 ⟨gl, rfl, hgl, hm4, hb4⟩; have H4 := Aside0.mk (And.intro hgl (And.intro hm4 hb4)); have HB4 := Aside0.mk (HB3.out.trans (hb4.mono HB3.out.size)); clear hgl hm4 hb4)
    | (go_at_call 50; go_loud (refine (set14 (B := w.heap.size) (wd := w2) (bi := bi) (bs := bs) (H3.out.cn.below H4.out.2.2) H3.out.di (H3.out.bw.trans (H4.out.2.2.mono H3.out.bw.size)) H3.out.ge (HT.out.below HB4.out) gl H4.out.2.1 (by have := H3.out.cn.lt; have := H4.out.1; omega) 0 (by decide) cW14 (by decide) rfl).mono ?_; rintro e w5 ⟨rfl, ⟨vm, h1⟩, h2, h3⟩; have H5 := Aside0.mk (And.intro h1 h2); have HB5 := Aside0.mk (HB4.out.trans (frg_bel h3 HB4.out.size (Nat.le_trans H3.out.sz H3.out.ge))); clear h1 h2 h3))
    | (go_at_call 53; go_loud (refine (start14 (B := w.heap.size) (c := cW14) H5.out.1 (by decide) H3.out.di H5.out.2 H3.out.ge).mono ?_; rintro e w6 ⟨rfl, h1, h2⟩; have H6 := Aside0.mk h1; have HB6 := Aside0.mk (HB5.out.trans (frg_bel h2 HB5.out.size (Nat.le_trans H3.out.sz H3.out.ge))); clear h1 h2))
    | (have hg := F0.out; clear hg; go_at_call 57; refine (frame14_any 513 7 _).mono ?_; rintro e w7 ⟨rfl, hb⟩; have H7 := Aside0.mk (H6.out.below hb); have HB7 := Aside0.mk (HB6.out.trans (hb.mono HB6.out.size)); clear hb F0)
    | (have hg := T0.out; clear hg; go_at_call 56; go_loud (refine (hear_yes H7.out (TblB.below HT.out HB7.out) ⟨rfl, by decide⟩ (by decide) 7 3 (by decide) (by decide) true).mono ?_; rintro e w8 ⟨⟨A8, c8, rfl, hC⟩, h1, h2⟩; have HC8 := Aside0.mk hC; have H8 := Aside0.mk h1; have HB8 := Aside0.mk (HB7.out.trans (h1.bel h2 HB7.out.size)); clear hC h1 h2 T0))
    | (have hg := I0.out; clear hg; go_at_call 55; go_loud (refine (is14_any A8 c8 0 0 w8 HC8.out).mono ?_; rintro e w' ⟨rfl, hw⟩; subst hw; clear I0))
    | (go_at_call 57; refine (frame14_any 513 10 _).mono ?_; rintro e w9 ⟨rfl, hb⟩; have H9 := Aside0.mk (H8.out.below hb); have HB9 := Aside0.mk (HB8.out.trans (hb.mono HB8.out.size)); clear hb)
    | (go_at_call 56; go_loud (refine (hear_no H9.out (TblB.below HT.out HB9.out) ⟨rfl, by decide⟩ (by decide) 10 4 (by decide) (by decide) true).mono ?_; rintro e w10 ⟨⟨A10, c10, rfl, hC⟩, h1, h2⟩; have HC10 := Aside0.mk hC; have H10 := Aside0.mk h1; have HB10 := Aside0.mk (HB9.out.trans (h1.bel h2 HB9.out.size)); clear hC h1 h2))
    | (go_at_call 55; go_loud (refine (is14_any A10 c10 0 101253169 w10 HC10.out).mono ?_; rintro e w' ⟨rfl, hw⟩; subst hw))
    | (go_at_call 64; refine (place14_any _).mono ?_; rintro e w11 ⟨rfl, hb⟩; have H11 := Aside0.mk (H10.out.below hb); have HB11 := Aside0.mk (HB10.out.trans (hb.mono HB10.out.size)); clear hb)
    | (go_at_call 25; go_loud (refine (get14 H11.out).mono ?_; rintro e w12 ⟨A12, c12, rfl, hr, hb⟩; have hcv := str_at (c := c12) (Rd_C hr) _ (Below.refl _ _); rw [e7, show ([7] : List Int).length = 1 from rfl] at hcv; have HB12 := Aside0.mk (HB11.out.trans (hb.mono HB11.out.size)); clear hr hb)))
  go_ret
  exact ⟨rfl, HB12.out⟩
end Go.Proofs.YtokebpeplopjhaaDoor.Mp
namespace Go.Proofs.YtokebpeplopjhaaDoor.Mp
open Go.RowKit Go.Shelf Go.Proofs.YtokebpeplopjhaaDoor.Rng Go.Proofs.YtokebpeplopjhaaDoorW.PrintWords Go.Proofs.YtokebpeplopjhaaDoorW.PrintMore Go.Proofs.YtokebpeplopjhaaDoorW.PrintLast

def cL (ev : Int) : Cm := ⟨true, 513, 254, 0, ev, 0⟩
/-- What stays in memory from step to step. -/
def LateAt (B : Nat) (w0 w : World) (g gd bi bs : Nat) (ev : Int) : Prop := (∃ b hd a lt, K1 B w g gd bi bs 3 b (cL ev) hd a lt) ∧ Fr (fun k => k = g ∨ k = gd ∨ k = bi) w0 w
def LateIn (B : Nat) (w0 w : World) (g gd bi bs : Nat) (ev now : Int) (k : Nat) : Prop := K1 B w g gd bi bs 3 1 (cL ev) true now (decide (ev < (k : Int))) ∧ Fr (fun k => k = g ∨ k = gd ∨ k = bi) w0 w
theorem LateIn.at_ {B : Nat} {w0 w : World} {g gd bi bs : Nat} {ev now : Int} {k : Nat} (h : LateIn B w0 w g gd bi bs ev now k) : LateAt B w0 w g gd bi bs ev := ⟨⟨_, _, _, _, h.1⟩, h.2⟩
theorem told3 {w : World} {A : Option Addr} (h : kN.C w A 1 [((3 : Nat) : Int)]) : ∃ ad, A = some ad ∧ w.cell? ad = some (.int .i64 3) := by
  obtain ⟨_, -, h2⟩ := Kd.reads_of_C (enc := Value.int .i64) (d := (0 : Int)) (h1 := fun _ => rfl) h
  obtain ⟨ad, e, hc⟩ := h2 (by decide)
  exact ⟨ad, e, hc 0 (by decide)⟩
def DueL (B : Nat) (w : World) (g gd bi bs : Nat) (ev a : Int) (e : Ending) (w' : World) : Prop := e = .returned (.tuple #[.int .i64 (a + ev), .bool true]) ∧ K1 B w' g gd bi bs 3 1 (cL ev) true a false ∧ Below w.heap.size w w'
theorem due_L {B : Nat} {w : World} {g gd bi bs : Nat} {ev a : Int} (h : K1 B w g gd bi bs 3 1 (cL ev) true a false) (he : 0 < ev ∧ ev < 256) (ha : 0 ≤ a ∧ a ≤ 1000000) : Calls Tryd.prog 58 #[.pointer (some ⟨g, 0, none⟩)] w (DueL B w g gd bi bs ev a) :=
  due_k h ⟨rfl, he.1⟩ ha (show ev ≤ 1000000 by omega)
set_option maxRecDepth 100000 in
set_option maxHeartbeats 8000000 in
theorem late_any (ev : Int) (hev : 0 ≤ ev ∧ ev < 256) (A : Option Addr) (c : Nat) (zs : List Int) (w : World) (ha : Arg w A c zs) (ht : Tbl w) :
    Calls Tryd.prog 13 #[.int .u8 ev, .slice A zs.length c] w fun e w' => e = .returned (.bool true) ∧ Below w.heap.size w w' := by
  have HT := Aside0.mk ht
  have HA := Aside0.mk ha
  obtain ⟨n, hn⟩ : ∃ n, zs.length = n := ⟨_, rfl⟩
  have HN := Aside0.mk hn
  obtain ⟨hev0, hev1⟩ := hev
  have HEV := Aside0.mk (And.intro hev0 hev1)
  rw [hn]
  clear ha ht hn
  by_cases he : ev = 0
  · subst he
    go_enter Tryd.func13, Tryd.ntmps13
    go_wp2_with (first
      | (go_at_call 48; go_loud (refine (entry14_any w).mono ?_; rintro e w1 ⟨ge, rfl, hE, hb⟩; have HE := Aside0.mk hE; have HB1 := Aside0.mk hb; clear hE hb))
      | (go_at_call 19; go_loud (refine (new_any w.heap.size hiE _ _ w1 HE.out (fun e he => (hiE_ok e he).1) (HT.out.below HB1.out) HB1.out.size (by decide) _ new9).mono ?_; rintro e w2 ⟨hb2, gd, bi, bs, rfl, hg, hbi, hbs, hD⟩; have HB2 := Aside0.mk (HB1.out.trans (hb2.mono HB1.out.size)); clear hb2 hg hbi hbs hD))
      | (go_at_call 49; go_loud (refine (cnew_any gd w2).mono ?_; rintro e w3 ⟨g, rfl, hg, hP, hb3⟩; have HB3 := Aside0.mk (HB2.out.trans (hb3.mono HB2.out.size)); clear hP hb3 hg))
      | (go_at_call 52; go_loud (refine (works14_any _ (HT.out.below HB3.out)).mono ?_; rintro e w4 ⟨rfl, hb4⟩; have HB4 := Aside0.mk (HB3.out.trans (hb4.mono HB3.out.size)); clear hb4)))
    go_ret
    exact ⟨rfl, HB4.out⟩
  have hcm : cmOk (cL ev) := ⟨(by decide : (513 : Int) ≤ 2047), .inr (by decide : (254 : Int) ≤ 254), ⟨(by decide : (0 : Int) ≤ 0), (by decide : (0 : Int) ≤ 1099511627776)⟩, ⟨by show 0 ≤ ev; omega, by show ev ≤ 1099511627776; omega⟩, (by decide : (0 : Int) ≤ 240)⟩
  have HCM := Aside0.mk hcm
  have hevp : 0 < ev := by omega
  have HEP := Aside0.mk hevp
  clear hcm
  by_cases hlen : (60 : Int) < n
  · have d60 := decide_eq_true hlen
    go_enter Tryd.func13, Tryd.ntmps13
    go_wp2_with (first
      | (go_at_call 48; go_loud (refine (entry14_any w).mono ?_; rintro e w1 ⟨ge, rfl, hE, hb⟩; have HE := Aside0.mk hE; have HB1 := Aside0.mk hb; clear hE hb))
      | (go_at_call 19; go_loud (refine (new_any w.heap.size hiE _ _ w1 HE.out (fun e he => (hiE_ok e he).1) (HT.out.below HB1.out) HB1.out.size (by decide) _ new9).mono ?_; rintro e w2 ⟨hb2, gd, bi, bs, rfl, hg, hbi, hbs, hD⟩; have HB2 := Aside0.mk (HB1.out.trans (hb2.mono HB1.out.size)); clear hb2 hg hbi hbs hD))
      | (go_at_call 49; go_loud (refine (cnew_any gd w2).mono ?_; rintro e w3 ⟨g, rfl, hg, hP, hb3⟩; have HB3 := Aside0.mk (HB2.out.trans (hb3.mono HB2.out.size)); clear hP hb3 hg))
      | (go_at_call 52; go_loud (refine (works14_any _ (HT.out.below HB3.out)).mono ?_; rintro e w4 ⟨rfl, hb4⟩; have HB4 := Aside0.mk (HB3.out.trans (hb4.mono HB3.out.size)); clear hb4)))
    go_ret
    exact ⟨rfl, HB4.out⟩
  have d60 := decide_eq_false hlen
  have hn60 : n ≤ 60 := by omega
  go_enter Tryd.func13, Tryd.ntmps13
  go_wp2_with (first
    | (go_at_call 48; go_loud (refine (entry14_any w).mono ?_; rintro e w1 ⟨ge, rfl, hE, hb⟩; have HE := Aside0.mk hE; have HB1 := Aside0.mk hb; clear hE hb))
    | (go_at_call 19; go_loud (refine (new_any w.heap.size hiE _ _ w1 HE.out (fun e he => (hiE_ok e he).1) (HT.out.below HB1.out) HB1.out.size (by decide) _ new9).mono ?_; rintro e w2 ⟨hb2, gd, bi, bs, rfl, hg, hbi, hbs, hD⟩; have HB2 := Aside0.mk (HB1.out.trans (hb2.mono HB1.out.size)); have HD := Aside0.mk hD; clear hb2 hg hbi hbs hD))
    | (go_at_call 49; go_loud (refine (cnew_any gd w2).mono ?_; rintro e w3 ⟨g, rfl, hg, hP, hb3⟩; have H3 := Aside0.mk (show New14 w.heap.size w2 w3 g gd bi bs from ⟨hP, HD.out, hb3, hg, HB2.out.size⟩); have HB3 := Aside0.mk (HB2.out.trans (hb3.mono HB2.out.size)); clear hP hb3 hg))
    | (go_at_call 51; refine (lone14_any _).mono ?_; rintro e w4 ⟨gl, rfl, hgl, hm4, hb4⟩; have H4 := Aside0.mk (And.intro hgl (And.intro hm4 hb4)); have HB4 := Aside0.mk (HB3.out.trans (hb4.mono HB3.out.size)); clear hgl hm4 hb4)
    | (go_at_call 50; go_loud (refine (set14 (B := w.heap.size) (wd := w2) (bi := bi) (bs := bs) (H3.out.cn.below H4.out.2.2) H3.out.di (H3.out.bw.trans (H4.out.2.2.mono H3.out.bw.size)) H3.out.ge (HT.out.below HB4.out) gl H4.out.2.1 (by have := H3.out.cn.lt; have := H4.out.1; omega) 3 (by decide) (cL ev) HCM.out rfl).mono ?_; rintro e w5 ⟨rfl, ⟨vm, h1⟩, h2, h3⟩; have H5 := Aside0.mk (And.intro h1 h2); have HB5 := Aside0.mk (HB4.out.trans (frg_bel h3 HB4.out.size (Nat.le_trans H3.out.sz H3.out.ge))); clear h1 h2 h3))
    | (go_at_call 53; go_loud (refine (start14 (B := w.heap.size) (c := cL ev) H5.out.1 (by decide) H3.out.di H5.out.2 H3.out.ge).mono ?_; rintro e w6 ⟨rfl, h1, h2⟩; have H6 := Aside0.mk h1; have HB6 := Aside0.mk (HB5.out.trans (frg_bel h2 HB5.out.size (Nat.le_trans H3.out.sz H3.out.ge))); clear h1 h2))
    | (go_at_call 54; go_loud (refine (ctick_no H6.out rfl 1000 (by decide) (late_off _ _ _ _ _ (.inl rfl))).mono ?_; rintro e w7 ⟨⟨A7, c7, rfl⟩, h1, h2⟩; have H7 := Aside0.mk h1; have HB7 := Aside0.mk (HB6.out.trans (h1.bel h2 HB6.out.size)); clear h1 h2)))
  have HL0 := Aside0.mk (show LateAt w.heap.size w7 w7 g gd bi bs ev from ⟨⟨_, _, _, _, H7.out⟩, Fr.refl _ _⟩)
  clear HB1 HB2 HB3 HB4 HB5 HB6 HE HD H3 H4 H5 H6 H7 HCM
  have HNE := Aside0.mk (show ∀ X, LateAt w.heap.size w7 X g gd bi bs ev → Below w.heap.size w X from fun X hX => by
    obtain ⟨⟨b, hd, a, lt, h1⟩, h2⟩ := hX
    exact HB7.out.trans (h1.bel h2 HB7.out.size))
  clear HB7
  go_loopw [8, 9] (fun nv iv wr => ∃ (i : Nat) (now : Int), i ≤ n ∧ iv = .int .i64 i ∧ nv = .int .i64 now ∧ 0 ≤ now ∧ now ≤ 255 * (i : Int) ∧ Aside0 (LateAt w.heap.size w7 wr g gd bi bs ev)) (fun _ iv _ => n - (intOf iv).toNat)
  case atStart => exact ⟨0, 0, Nat.zero_le _, rfl, rfl, by omega, by omega, HL0⟩
  case round =>
    obtain ⟨i, now, hi, rfl, rfl, hn0, hn1, HI⟩ := hrel
    by_cases hlt : i < n
    · have hi1 : (i : Int) < (n : Int) := by omega
      have hi60 : (i : Int) < 60 := by omega
      obtain ⟨s, hs⟩ : ∃ s, zs[i]? = some s := ⟨_, List.getElem?_eq_getElem (by rw [HN.out]; exact hlt)⟩
      have hsb := HA.out.byt s (List.mem_of_getElem? hs)
      obtain ⟨hs0, hs1⟩ := hsb
      obtain ⟨ad, rfl, hcc⟩ := HA.out.rd.2 (by have := HN.out; omega)
      have HZ := Aside0.mk fun X (hX : Below w.heap.size w X) => (show X.cell? (ad.add i) = some (.int .u8 s) from pw_cell_below hX (by
        have h := hcc i (by rw [HN.out]; exact hlt)
        rw [hs] at h
        exact h))
      have HILT := Aside0.mk hlt
      clear hs hcc
      obtain ⟨⟨b, hd, a, lt, hk1⟩, hfr⟩ := HI.out
      have HK := Aside0.mk hk1
      have HF := Aside0.mk hfr
      have HBR := Aside0.mk (HNE.out wr HI.out)
      have htn : timeC now := ⟨by omega, by omega⟩
      have HTN := Aside0.mk htn
      clear hk1 hfr HI HL0 htn
      have hbn : now ≤ 15300 := by omega
      go_wp2_with (first
        | (go_at_call 57; refine (frame14_any 513 1 _).mono ?_; rintro e w8 ⟨rfl, hb⟩; have HK8 := Aside0.mk (HK.out.below hb); have HF8 := Aside0.mk (HF.out.trans (Fr.of_below hb)); have HB8 := Aside0.mk (HBR.out.trans (hb.mono HBR.out.size)); clear hb)
        | (go_at_call 56; go_loud (refine (hear_yes HK8.out (TblB.below HT.out HB8.out) ⟨rfl, (by decide : (254 : Int) ≤ 254)⟩ (by decide : (513 : Int) ≤ 2047) 1 now (by decide) HTN.out false).mono ?_; rintro e w9 ⟨⟨A9, c9, rfl, hC⟩, h1, h2⟩; have HC9 := Aside0.mk hC; have HK9 := Aside0.mk h1; have HF9 := Aside0.mk (HF8.out.trans h2); clear hC h1 h2))
        | (go_at_call 55; go_loud (refine (is14_any A9 c9 3 0 w9 HC9.out).mono ?_; rintro e w' ⟨rfl, hw⟩; subst hw))
        | (go_at_call 58; go_loud (refine (due_L HK9.out ⟨HEP.out, HEV.out.2⟩ ⟨by omega, by omega⟩).mono ?_; rintro e w10 ⟨rfl, h1, h2⟩; have HK10 := Aside0.mk h1; have HF10 := Aside0.mk (HF9.out.trans (Fr.of_below h2)); clear h1 h2)))
      have HI0 := Aside0.mk (show LateIn w.heap.size w7 w10 g gd bi bs ev now 0 from ⟨by rw [decide_eq_false (show ¬ ev < ((0 : Nat) : Int) by omega)]; exact HK10.out, HF10.out⟩)
      clear HK HF HBR HK8 HF8 HB8 HC9 HK9 HF9 HK10 HF10 HTN
      go_loopw [12] (fun kv wr => ∃ k : Nat, (k : Int) ≤ s ∧ kv = .int .i64 k ∧ Aside0 (LateIn w.heap.size w7 wr g gd bi bs ev now k)) (fun kv _ => s.toNat - (intOf kv).toNat)
      case atStart => exact ⟨0, by omega, rfl, HI0⟩
      case round =>
        obtain ⟨k, hk, rfl, HIK⟩ := hrel
        have m0 := HZ.out wr (HNE.out wr HIK.out.at_)
        have HBK := Aside0.mk (HNE.out wr HIK.out.at_)
        clear HI0
        by_cases hks : (k : Int) < s
        · have htk : timeC (now + k) := ⟨by omega, by omega⟩
          have HTK := Aside0.mk htk
          have HKS := Aside0.mk hks
          clear htk
          rcases Int.lt_trichotomy (k : Int) ev with h | h | h
          · have hl : decide (ev < (k : Int)) = false := decide_eq_false (by omega)
            have hl2 : lateC (coI (cL ev) true now false) (now + k) = false := by
              rw [late_yes _ _ _ ⟨rfl, HEP.out⟩ ⟨by omega, by omega⟩ ⟨by omega, by omega⟩]
              exact decide_eq_false (by show ¬ ev ≤ _; omega)
            have hl3 : decide (ev < ((k + 1 : Nat) : Int)) = false := decide_eq_false (by omega)
            have hkk := HIK.out.1
            rw [hl] at hkk
            have HKK := Aside0.mk (And.intro hkk (And.intro hl2 (And.intro hl3 HIK.out.2)))
            have hne : ¬ (k : Int) = ev := by omega
            clear hl hl2 hl3 hkk HIK
            go_wp2_with (go_at_call 54; go_loud (refine (ctick_no HKK.out.1 rfl (now + k) HTK.out HKK.out.2.1).mono ?_; rintro e w11 ⟨⟨A11, c11, rfl⟩, h1, h2⟩; have HK11 := Aside0.mk (And.intro h1 (HKK.out.2.2.2.trans h2)); clear h1 h2))
            go_roundw
            case rel => exact ⟨k + 1, by have := HKS.out; omega, by go_num, ⟨by rw [HKK.out.2.2.1]; exact HK11.out.1, HK11.out.2⟩⟩
            case measure => have := HKS.out; simp [intOf]; omega
          · have hl : decide (ev < (k : Int)) = false := decide_eq_false (by omega)
            have hl2 : lateC (coI (cL ev) true now false) (now + k) = true := by
              rw [late_yes _ _ _ ⟨rfl, HEP.out⟩ ⟨by omega, by omega⟩ ⟨by omega, by omega⟩]
              exact decide_eq_true (by show ev ≤ _; omega)
            have hl3 : decide (ev < ((k + 1 : Nat) : Int)) = true := decide_eq_true (by omega)
            have hkk := HIK.out.1
            rw [hl] at hkk
            have HKK := Aside0.mk (And.intro hkk (And.intro hl2 (And.intro hl3 HIK.out.2)))
            have heq1 : ((k : Int) == ev) = true := by simpa using h
            clear hl hl2 hl3 hkk HIK h
            go_wp2_with (go_at_call 54; go_loud ((with_reducible refine (ctick_yes HKK.out.1 rfl (now + k) HTK.out HKK.out.2.1).mono ?_); rintro e w11 ⟨⟨A11, c11, rfl, hC⟩, h1, h2⟩; have HK11 := Aside0.mk (And.intro h1 (HKK.out.2.2.2.trans h2)); obtain ⟨ad11, rfl, q11⟩ := told3 hC; clear h1 h2 hC))
            go_roundw
            case rel => exact ⟨k + 1, by have := HKS.out; omega, by go_num, ⟨by rw [HKK.out.2.2.1]; exact HK11.out.1, HK11.out.2⟩⟩
            case measure => have := HKS.out; simp [intOf]; omega
          · have hl : decide (ev < (k : Int)) = true := decide_eq_true (by omega)
            have hl3 : decide (ev < ((k + 1 : Nat) : Int)) = true := decide_eq_true (by omega)
            have hkk := HIK.out.1
            rw [hl] at hkk
            have HKK := Aside0.mk (And.intro hkk (And.intro hl3 HIK.out.2))
            have hne : ¬ (k : Int) = ev := by omega
            clear hl hl3 hkk HIK
            go_wp2_with (go_at_call 54; go_loud (refine (ctick_no HKK.out.1 rfl (now + k) HTK.out (late_off _ _ _ _ _ (.inr rfl))).mono ?_; rintro e w11 ⟨⟨A11, c11, rfl⟩, h1, h2⟩; have HK11 := Aside0.mk (And.intro h1 (HKK.out.2.2.trans h2)); clear h1 h2))
            go_roundw
            case rel => exact ⟨k + 1, by have := HKS.out; omega, by go_num, ⟨by rw [HKK.out.2.1]; exact HK11.out.1, HK11.out.2⟩⟩
            case measure => have := HKS.out; simp [intOf]; omega
        · have hke : (k : Int) = s := by omega
          have HIE := Aside0.mk HIK.out.at_
          clear HIK
          go_wp2
          go_roundw
          case rel => exact ⟨i + 1, now + s, by have := HILT.out; omega, by go_num, by go_num, by omega, by omega, HIE⟩
          case measure => have := HILT.out; simp [intOf]; omega
    · obtain rfl : i = n := by omega
      have HBE := Aside0.mk (HNE.out wr HI.out)
      have hi1 : ¬ (i : Int) < (i : Int) := by omega
      clear HI HL0
      go_wp2_with (go_at_call 52; go_loud (refine (works14_any _ (HT.out.below HBE.out)).mono ?_; rintro e w12 ⟨rfl, hb12⟩; have HB12 := Aside0.mk (HBE.out.trans (hb12.mono HBE.out.size)); clear hb12))
      go_ret
      exact ⟨rfl, HB12.out⟩
end Go.Proofs.YtokebpeplopjhaaDoor.Mp
