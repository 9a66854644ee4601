/- ProduceKnown, walked. -/
import Derived.Test.YtokebpeplopjhaaDoorY14
import Derived.Deep.RegionHeld3
import Derived.Deep.DeepCutAuto
set_option linter.unusedSimpArgs false
set_option linter.unusedVariables false
namespace Go.Proofs.YtokebpeplopjhaaDoor.Mp
open Go.RowKit Go.Shelf Go.Proofs.YtokebpeplopjhaaDoor.Rng Go.Proofs.YtokebpeplopjhaaDoorW.PrintWords Go.Proofs.YtokebpeplopjhaaDoorW.PrintMore Go.Proofs.YtokebpeplopjhaaDoorW.PrintLast

def zmp (n : Nat) : Array Value := madeCells (Value.agg #[.int .u16 0, .int .u8 0, .int .i64 0]).cells (n * 3)
theorem make_mp (n : Nat) (hn : n ≤ 1000) (W : World) : (Instr.makeSlice 23 (.int .i64 n) (.int .i64 n)).run Tryd.prog W = .ok (.slice (some ⟨W.heap.size, 0, none⟩) n n) (W.alloc (.cells (zmp n) 48)) := by
  have h := info_mpP
  cases hi : Tryd.prog.info? 48 with
  | none => rw [hi] at h; cases h
  | some i =>
    rw [hi] at h
    simp only [Option.map_some, Option.some.injEq, Prod.mk.injEq] at h
    obtain ⟨h1, h2, h3⟩ := h
    have := run_makeSlice (P := Tryd.prog) (w := W) 23 48 i (.agg #[.int .u16 0, .int .u8 0, .int .i64 0]) Tryd.underlying23 hi h1 .i64 .i64 n n (by omega) (Int.le_refl _) (by rw [h2]; simp; omega) (by rw [h3]; omega) (by omega)
    rw [this, h2]
    rfl
theorem zmp_get (n j r : Nat) (hj : j < n) (hr : r < 3) : (zmp n)[j * 3 + r]? = some ((#[Value.int .u16 0, .int .u8 0, .int .i64 0] : Array Value)[r]!) := by
  unfold zmp madeCells
  rw [Array.getElem?_map, Array.getElem?_range]
  rw [if_pos (by omega)]
  show some ((#[Value.int .u16 0, .int .u8 0, .int .i64 0] : Array Value)[(j * 3 + r) % 3]!) = _
  rw [show (j * 3 + r) % 3 = r by omega]
def zM : Mp := ⟨0, 0, 0⟩
theorem ms_zero {w : World} {g n : Nat} (h : w.heap[g]? = some (.cells (zmp n) 48 (0, 0))) : MsAt w (some ⟨g, 0, none⟩) (List.replicate n zM) := by
  intro j m hj
  obtain ⟨hj1, hj2⟩ := List.getElem?_eq_some_iff.1 hj
  rw [List.length_replicate] at hj1
  rw [List.getElem_replicate] at hj2
  subst hj2
  have hc := blk_cell h
  have e : (⟨g, 0, none⟩ : Addr).add (j * 3) = ⟨g, j * 3, none⟩ := add_plain _ _
  exact ⟨_, rfl, by rw [e, hc (j * 3)]; exact zmp_get n j 0 hj1 (by omega), by rw [e, hc (j * 3 + 1)]; exact zmp_get n j 1 hj1 (by omega), by rw [e, hc (j * 3 + 2)]; exact zmp_get n j 2 hj1 (by omega)⟩
theorem zM_ok (n : Nat) : ∀ m ∈ List.replicate n zM, m.Wf := by
  intro m hm
  obtain ⟨_, rfl⟩ := List.mem_replicate.1 hm
  exact ⟨by decide, by decide, by decide⟩
theorem chk_zero : checkC (some d7) (List.replicate 1 zM) true = 100794368 := by decide +kernel
theorem may_7 : (mayW (some d1) 24576 1 [7]).2 = 0 := oneD_d1.may 7
theorem d1_ok : Good d1 := d1_good
theorem d7_ok : Good d7 := oneD_7.good
theorem chk_1 : checkC (some d1) oneM true = 0 := oneD_d1.check
theorem chk_7 : checkC (some d7) oneM true = 0 := oneD_7.check
theorem ok1 : ∀ i, i < 8 → OkB (os1 i) := okB_K (okB_I (by decide)) (okB_Z _) (okB_Z _) (okB_Z _)
theorem ok2 : ∀ i, i < 8 → OkB (os2 i) := okB_K (okB_I (by decide)) (okB_Z _) (okB_Z _) (okB_Z _)
theorem ok3 : ∀ i, i < 8 → OkB (os3 i) := okB_K (okB_I (by decide)) (okB_Z _) (okB_Z _) (okB_Z _)
theorem ok4 : ∀ i, i < 8 → OkB (os4 i) := okB_K (okB_I (by decide)) (okB_I (by decide)) (okB_Z _) (okB_Z _)
theorem ok5 : ∀ i, i < 8 → OkB (os5 i) := okB_K (okB_I (by decide)) (okB_I (by decide)) (okB_Z _) (okB_Z _)
theorem ok6 : ∀ i, i < 8 → OkB (os6 i) := okB_K (okB_I (by decide)) (okB_I (by decide)) (okB_Z _) (okB_Z _)
theorem ok9 : ∀ i, i < 8 → OkB (os9 i) := okB_K (okB_I (by decide)) (okB_Z _) (okB_I (by decide)) (okB_Z _)
theorem okB' : ∀ i, i < 8 → OkB (osB i) := okB_K (okB_I (by decide)) (okB_Z _) (okB_I (by decide)) (okB_Z _)
theorem okC' : ∀ i, i < 8 → OkB (osC i) := okB_K (okB_I (by decide)) (okB_Z _) (okB_I (by decide)) (okB_Z _)
theorem okE' : ∀ i, i < 8 → OkB (osE i) := okB_K (okB_W (by decide)) (okB_Z _) (okB_I (by decide)) (okB_Z _)
theorem okF' : ∀ i, i < 8 → OkB (osF i) := okB_K (okB_I (by decide)) (okB_Z _) (okB_I (by decide)) (okB_Z _)
theorem kset_z {B : Nat} {w : World} {g gd bi bs : Nat} {d : DD} {os : Nat → Ob} {goes : Bool} {n0 : Int} (h : KP B w g gd bi bs d os goes n0) (g' n : Nat) (hn : n ≤ 64) (hz : w.heap[g']? = some (.cells (zmp n) 48 (0, 0))) (hg : g' ≠ g) :
    Calls Tryd.prog 40 #[.pointer (some ⟨g, 0, none⟩), .int .i64 0, zCm.v, .slice (some ⟨g', 0, none⟩) n n] w (KSaid B w g gd bi bs d (upd os 0 ((setOb zCm (List.replicate n zM)).begin_ n0)) goes n0 (.int .u32 0)) := by
  have h1 := kset_off (os2 := upd os 0 ((setOb zCm (List.replicate n zM)).begin_ n0)) h 0 (by omega) zCm (List.replicate n zM) (some ⟨g', 0, none⟩) n (ms_zero hz) (fun ad e _ => by injection e with e; subst e; exact hg) (by rw [List.length_replicate]; exact hn) (by decide) rfl (fun _ _ => rfl)
  rw [List.length_replicate] at h1
  exact h1
theorem kset_c {B : Nat} {w : World} {g gd bi bs : Nat} {os : Nat → Ob} {goes : Bool} {n0 : Int} (h : KP B w g gd bi bs d7 os goes n0) (ht : Tbl w) (g' : Nat) (hz : w.heap[g']? = some (.cells (zmp 1) 48 (0, 0))) :
    Calls Tryd.prog 40 #[.pointer (some ⟨g, 0, none⟩), .int .i64 0, (⟨true, 0, 0, 0, 0, 0⟩ : Cm).v, .slice (some ⟨g', 0, none⟩) 1 1] w fun e w' => e = .returned (.int .u32 100794368) ∧ Below w.heap.size w w' := by
  obtain ⟨⟨vm, vb, h1⟩, h2, -⟩ := h
  have h3 := pset_check B g gd bi bs d7 os vm vb goes n0 0 (by omega) ⟨true, 0, 0, 0, 0, 0⟩ (List.replicate 1 zM) (some ⟨g', 0, none⟩) 1 w h1 h2.dictB d7_ok ht (ms_zero hz) (by rw [List.length_replicate]; omega) (zM_ok 1) (by decide) rfl 100794368 chk_zero (by decide)
  rw [List.length_replicate] at h3
  exact h3
/-- The six Comms that may not be. -/
def badC : Nat → Cm
  | 0 => ⟨false, 2048, 0, 0, 0, 0⟩
  | 1 => ⟨false, 0, 241, 0, 0, 0⟩
  | 2 => ⟨false, 0, 253, 0, 0, 0⟩
  | 3 => ⟨false, 0, 0, -1, 0, 0⟩
  | 4 => ⟨false, 0, 0, 0, 1099511627777, 0⟩
  | _ => ⟨false, 0, 0, 0, 0, 241⟩
theorem bad_no : ∀ i, ¬ cmOk (badC i)
  | 0 => by decide
  | 1 => by decide
  | 2 => by decide
  | 3 => by decide
  | 4 => by decide
  | n + 5 => (by decide : ¬ cmOk ⟨false, 0, 0, 0, 0, 241⟩)
theorem began_kp {w w' : World} {B : Nat} {e : Ending} (h : BeganSaid B w e w') (hB : B ≤ w.heap.size) : ∃ g gd bi bs, e = .returned (.tuple #[.pointer (some ⟨g, 0, none⟩), .pointer (some ⟨gd, 0, none⟩)]) ∧ KP B w' g gd bi bs d1 (fun _ => zOb) false 0 ∧ Below w.heap.size w w' := by
  obtain ⟨g, gd, bi, bs, wd, rfl, h1, h2, h3, h4, h5, h6⟩ := h
  have hl := h2.lt
  exact ⟨g, gd, bi, bs, rfl, ⟨⟨_, _, h1⟩, (h2.toG h4).below h3, ⟨by omega, by omega, by omega⟩, by omega⟩, h6⟩
set_option maxRecDepth 100000 in
set_option maxHeartbeats 32000000 in
theorem pknown_any (w : World) (ht : Tbl w) : Calls Tryd.prog 14 #[] w fun e w' => e = .returned (.bool true) ∧ Below w.heap.size w w' := by
  have HT := Aside0.mk ht
  clear ht
  have TK0 := Aside0.mk True.intro
  have TK1 := Aside0.mk True.intro
  have TK2 := Aside0.mk True.intro
  have TK3 := Aside0.mk True.intro
  have TK4 := Aside0.mk True.intro
  have TK5 := Aside0.mk True.intro
  have TK6 := Aside0.mk True.intro
  have TK7 := Aside0.mk True.intro
  have TK8 := Aside0.mk True.intro
  have TK9 := Aside0.mk True.intro
  have TK10 := Aside0.mk True.intro
  have TK11 := Aside0.mk True.intro
  have TK12 := Aside0.mk True.intro
  have TK13 := Aside0.mk True.intro
  have TK14 := Aside0.mk True.intro
  have TK15 := Aside0.mk True.intro
  have TK16 := Aside0.mk True.intro
  have TK17 := Aside0.mk True.intro
  have TK18 := Aside0.mk True.intro
  have TK19 := Aside0.mk True.intro
  have TK20 := Aside0.mk True.intro
  have TK21 := Aside0.mk True.intro
  have TK22 := Aside0.mk True.intro
  have TK23 := Aside0.mk True.intro
  have TK24 := Aside0.mk True.intro
  have TK25 := Aside0.mk True.intro
  have TK26 := Aside0.mk True.intro
  have TK27 := Aside0.mk True.intro
  have TK28 := Aside0.mk True.intro
  have TK29 := Aside0.mk True.intro
  have TK30 := Aside0.mk True.intro
  have TK31 := Aside0.mk True.intro
  have TK32 := Aside0.mk True.intro
  have TK33 := Aside0.mk True.intro
  have TK34 := Aside0.mk True.intro
  go_enter Tryd.func14, Tryd.ntmps14
  go_wp2_with (go_at_call 39; refine (began_any w.heap.size w HT.out (Nat.le_refl _)).mono ?_; intro e w1 hbg; obtain ⟨g, gd, bi, bs, rfl, hk, hb1⟩ := began_kp hbg (Nat.le_refl _); have HB1 := Aside0.mk hb1; have HK1 := Aside0.mk hk; clear hb1 hk hbg)
  have hx1 : Below w1.heap.size w1 (w1.alloc (.cells #[.bool true, .int .u16 385, .int .u8 255, .int .i64 10, .int .i64 50, .int .u8 0] 82)) := below_alloc (Below.refl _ _) _
  have hbk := blk_new w1 (.cells #[.bool true, .int .u16 385, .int .u8 255, .int .i64 10, .int .i64 50, .int .u8 0] 82)
  have hgl := HK1.out.lt
  have hgl2 := HK1.out.dd.dictB.lt
  have hne1 : w1.heap.size ≠ g := by omega
  have hne2 : ¬ (w1.heap.size = g ∨ w1.heap.size = gd ∨ w1.heap.size = bi) := by omega
  obtain ⟨bx, hbx⟩ : ∃ bx, bx = w1.heap.size := ⟨_, rfl⟩
  rw [← hbx] at hne1 hne2 hbk
  have HK2 := Aside0.mk (HK1.out.below hx1)
  have HBW := Aside0.mk (HB1.out.trans (hx1.mono HB1.out.size))
  generalize w1.alloc (.cells #[.bool true, .int .u16 385, .int .u8 255, .int .i64 10, .int .i64 50, .int .u8 0] 82) = w2 at HK2 HBW hbk ⊢
  rw [← hbx]
  clear hx1 hbx HK1 hgl hgl2
  have HT2 := Aside0.mk (show TblB w.heap.size w2 from TblB.below HT.out HBW.out)
  have HSZ2 := Aside0.mk HBW.out.size
  have HBX := Aside0.mk hbk
  have HNE := Aside0.mk hne2
  have hS0 : Fr3 g gd bi w2 w2.drew := Fr.of_below (below_drew (Below.refl _ _))
  have u0 : ∀ X, Fr3 g gd bi w2 X → X.cell? ⟨bx, 0, none⟩ = some (.bool true) := fun X hX => hX.cell (Go.Proofs.YtokebpeplopjhaaDoorW.PrintWords.blk_cell hbk 0) hne2
  have u1 : ∀ X, Fr3 g gd bi w2 X → X.cell? ⟨bx, 1, none⟩ = some (.int .u16 385) := fun X hX => hX.cell (Go.Proofs.YtokebpeplopjhaaDoorW.PrintWords.blk_cell hbk 1) hne2
  have u2 : ∀ X, Fr3 g gd bi w2 X → X.cell? ⟨bx, 2, none⟩ = some (.int .u8 255) := fun X hX => hX.cell (Go.Proofs.YtokebpeplopjhaaDoorW.PrintWords.blk_cell hbk 2) hne2
  have u3 : ∀ X, Fr3 g gd bi w2 X → X.cell? ⟨bx, 3, none⟩ = some (.int .i64 10) := fun X hX => hX.cell (Go.Proofs.YtokebpeplopjhaaDoorW.PrintWords.blk_cell hbk 3) hne2
  have u4 : ∀ X, Fr3 g gd bi w2 X → X.cell? ⟨bx, 4, none⟩ = some (.int .i64 50) := fun X hX => hX.cell (Go.Proofs.YtokebpeplopjhaaDoorW.PrintWords.blk_cell hbk 4) hne2
  have u5 : ∀ X, Fr3 g gd bi w2 X → X.cell? ⟨bx, 5, none⟩ = some (.int .u8 0) := fun X hX => hX.cell (Go.Proofs.YtokebpeplopjhaaDoorW.PrintWords.blk_cell hbk 5) hne2
  clear hbk
  go_region_held3 (fun X => Fr3 g gd bi w2 X) (first | assumption | exact hS0)
    (first
      | (go_at_call 41; go_loud (refine (lone_any _).mono ?_; rintro e w3 ⟨gl, rfl, hgl3, hm3, hb3⟩; have hs3 : Fr3 g gd bi w2 w3 := (Fr.of_below (below_drew (Below.refl _ _))).trans (Fr.of_below hb3); have HB3 := Aside0.mk (show Below w2.heap.size w2 w3 from below_step (below_drew (Below.refl _ _)) hb3); have HM3 := Aside0.mk (And.intro hm3 (show gl ≠ g from by have := HK2.out.lt; simp at hgl3; omega)); clear hm3 hgl3 hb3))
      | (go_at_call 40; go_loud (refine (kset (HK2.out.below HB3.out) d1_ok (HT2.out.below (HB3.out.mono HSZ2.out)) 0 (by omega) cA oneM (some ⟨gl, 0, none⟩) 1 HM3.out.1 (fun ad e _ => by injection e with e; subst e; exact HM3.out.2) (by decide) oneM_ok (by decide) rfl chk_1 (fun _ _ => rfl)).mono ?_; rintro e w4 ⟨rfl, h1, h2⟩; have hs4 : Fr3 g gd bi w2 w4 := (Fr.of_below HB3.out).trans h2; have HK := Aside0.mk h1; have HF := Aside0.mk (show Fr3 g gd bi w2 w4 from (Fr.of_below HB3.out).trans h2); clear h1 h2)))
  clear u0 u1 u2 u3 u4 u5 hS0 hs3 hs4 hne1 hne2 HM3 HB3 HK2 HB1
  go_wp2_with (first
    | (go_at_call 43; have _t := TK0; go_loud (refine (kstart HK.out 0 ⟨by decide, by decide⟩ k1_o).mono ?_; rintro e w11 ⟨rfl, h1, h2⟩; replace HF := Aside0.mk (HF.out.trans h2); replace HK := Aside0.mk h1; clear _t TK0 h1 h2))
    | (go_at_call 45; have _t := TK1; go_loud (refine (ktick HK.out d1_ok (HT2.out.below (HK.out.bel HF.out HSZ2.out)) ok1 0 ⟨by decide, by decide⟩ ([frZ 385 [0]]) 1 rfl k2_f k2_o).mono ?_; rintro e w12 ⟨A12, c12, rfl, hf, h1, h2⟩; have HR12 := Aside0.mk hf; replace HF := Aside0.mk (HF.out.trans h2); replace HK := Aside0.mk h1; clear _t TK1 hf h1 h2))
    | (go_at_call 44; have _t := TK2; go_loud (refine (place_any _).mono ?_; rintro e w13 ⟨rfl, hb⟩; replace HF := Aside0.mk (HF.out.trans (Fr.of_below hb)); replace HK := Aside0.mk (HK.out.below hb); clear _t TK2 hb))
    | (go_at_call 20; have _t := TK3; go_loud (refine (kwrite (HK.out.below (below_alloc (Below.refl _ _) _)) d1_ok (HT2.out.below ((HK.out.bel HF.out HSZ2.out).trans ((below_alloc (Below.refl _ _) _).mono (Nat.le_trans HSZ2.out HF.out.size)))) 24576 1 (by omega) (by omega) (some ⟨_, 0, none⟩) 1 [7] (argv_lit _ 7 (by decide))).mono ?_; rintro e w14 ⟨rfl, h1, h2⟩; rw [may_7]; replace HF := Aside0.mk (HF.out.trans ((Fr.of_below (below_alloc (Below.refl _ _) _)).trans h2)); replace HK := Aside0.mk (show KP w.heap.size _ g gd bi bs d7 _ _ _ from h1); clear _t TK3 h1 h2))
    | (go_at_call 45; have _t := TK4; go_loud (refine (ktick HK.out d7_ok (HT2.out.below (HK.out.bel HF.out HSZ2.out)) ok2 10 ⟨by decide, by decide⟩ ([frZ 385 [7]]) 1 rfl k3_f k3_o).mono ?_; rintro e w15 ⟨A15, c15, rfl, hf, h1, h2⟩; have HR15 := Aside0.mk hf; replace HF := Aside0.mk (HF.out.trans h2); replace HK := Aside0.mk h1; clear _t TK4 hf h1 h2))
    | (go_at_call 59; have _t := TK5; go_loud (refine (pdue_any w.heap.size g _ (some d7) os3 _ _ 10 _ HK.out.ex.choose_spec.choose_spec ⟨gd, rfl, HK.out.dd.dictB.dict⟩ (HT2.out.below (HK.out.bel HF.out HSZ2.out)).tbl (fun d' e => by injection e with e; exact e ▸ d7_ok) (fun i hi => (ok3 i hi).mw)).mono ?_; rw [k_due]; rintro e w16 ⟨rfl, hb⟩; replace HF := Aside0.mk (HF.out.trans (Fr.of_below hb)); replace HK := Aside0.mk (HK.out.below hb); clear _t TK5 hb))
    | (go_at_call 41; have _t := TK6; go_loud (refine (lone_any _).mono ?_; rintro e w17 ⟨gl17, rfl, hgl, hm, hb⟩; have HM17 := Aside0.mk (And.intro hm (show gl17 ≠ g from by have := HK.out.lt; omega)); replace HF := Aside0.mk (HF.out.trans (Fr.of_below hb)); replace HK := Aside0.mk (HK.out.below hb); clear _t TK6 hgl hm hb))
    | (go_at_call 40; have _t := TK7; go_loud (refine (kset HK.out d7_ok (HT2.out.below (HK.out.bel HF.out HSZ2.out)) 1 (by omega) cB1 oneM (some ⟨gl17, 0, none⟩) 1 HM17.out.1 (fun ad e _ => by injection e with e; subst e; exact HM17.out.2) (by decide) oneM_ok (by decide) rfl chk_7 k4_o).mono ?_; rintro e w18 ⟨rfl, h1, h2⟩; replace HF := Aside0.mk (HF.out.trans h2); replace HK := Aside0.mk h1; clear _t TK7 h1 h2))
    | (go_at_call 47; have _t := TK8; go_loud (refine (ksync HK.out d7_ok (HT2.out.below (HK.out.bel HF.out HSZ2.out)) ok4 0 1 ⟨by decide, by decide⟩ ([]) 0 rfl k5_f k5_o).mono ?_; rintro e w19 ⟨A19, c19, rfl, hf, h1, h2⟩; have HR19 := Aside0.mk hf; replace HF := Aside0.mk (HF.out.trans h2); replace HK := Aside0.mk h1; clear _t TK8 hf h1 h2))
    | (go_at_call 47; have _t := TK9; go_loud (refine (ksync HK.out d7_ok (HT2.out.below (HK.out.bel HF.out HSZ2.out)) ok5 0 1 ⟨by decide, by decide⟩ ([]) 0 rfl k6_f k6_o).mono ?_; rintro e w20 ⟨A20, c20, rfl, hf, h1, h2⟩; have HR20 := Aside0.mk hf; replace HF := Aside0.mk (HF.out.trans h2); replace HK := Aside0.mk h1; clear _t TK9 hf h1 h2))
    | (go_at_call 47; have _t := TK10; go_loud (refine (ksync HK.out d7_ok (HT2.out.below (HK.out.bel HF.out HSZ2.out)) ok6 0 1 ⟨by decide, by decide⟩ ([frZ 641 [7]]) 1 rfl k7_f k7_o).mono ?_; rintro e w21 ⟨A21, c21, rfl, hf, h1, h2⟩; have HR21 := Aside0.mk hf; replace HF := Aside0.mk (HF.out.trans h2); replace HK := Aside0.mk h1; clear _t TK10 hf h1 h2))
    | (go_at_call 46; have _t := TK11; go_loud (refine (is_fr 641 7 A21 c21 (by decide) (by decide) w21 HR21.out).mono ?_; rintro e w' ⟨rfl, hw⟩; subst hw; clear _t TK11 ))
    | (go_at_call 40; have _t := TK12; go_loud (refine (kset_off HK.out 1 (by omega) zCm [] none 0 (fun j m h => by simp at h) (fun ad e => by cases e) (by decide) (by decide) rfl k8_o).mono ?_; rintro e w22 ⟨rfl, h1, h2⟩; replace HF := Aside0.mk (HF.out.trans h2); replace HK := Aside0.mk h1; clear _t TK12 h1 h2))
    | (go_at_call 41; have _t := TK13; go_loud (refine (lone_any _).mono ?_; rintro e w23 ⟨gl23, rfl, hgl, hm, hb⟩; have HM23 := Aside0.mk (And.intro hm (show gl23 ≠ g from by have := HK.out.lt; omega)); replace HF := Aside0.mk (HF.out.trans (Fr.of_below hb)); replace HK := Aside0.mk (HK.out.below hb); clear _t TK13 hgl hm hb))
    | (go_at_call 40; have _t := TK14; go_loud (refine (kset HK.out d7_ok (HT2.out.below (HK.out.bel HF.out HSZ2.out)) 2 (by omega) cC oneM (some ⟨gl23, 0, none⟩) 1 HM23.out.1 (fun ad e _ => by injection e with e; subst e; exact HM23.out.2) (by decide) oneM_ok (by decide) rfl chk_7 k9_o).mono ?_; rintro e w24 ⟨rfl, h1, h2⟩; replace HF := Aside0.mk (HF.out.trans h2); replace HK := Aside0.mk h1; clear _t TK14 h1 h2))
    | (go_at_call 47; have _t := TK15; go_loud (refine (ksync HK.out d7_ok (HT2.out.below (HK.out.bel HF.out HSZ2.out)) ok9 3 2 ⟨by decide, by decide⟩ ([]) 0 rfl kA_f kA_o).mono ?_; rintro e w25 ⟨A25, c25, rfl, hf, h1, h2⟩; have HR25 := Aside0.mk hf; replace HF := Aside0.mk (HF.out.trans h2); replace HK := Aside0.mk h1; clear _t TK15 hf h1 h2))
    | (go_at_call 47; have _t := TK16; go_loud (refine (ksync HK.out d7_ok (HT2.out.below (HK.out.bel HF.out HSZ2.out)) ok9 4 3 ⟨by decide, by decide⟩ ([frZ 897 [7]]) 1 rfl kB_f kB_o).mono ?_; rintro e w26 ⟨A26, c26, rfl, hf, h1, h2⟩; have HR26 := Aside0.mk hf; replace HF := Aside0.mk (HF.out.trans h2); replace HK := Aside0.mk h1; clear _t TK16 hf h1 h2))
    | (go_at_call 46; have _t := TK17; go_loud (refine (is_fr 897 7 A26 c26 (by decide) (by decide) w26 HR26.out).mono ?_; rintro e w' ⟨rfl, hw⟩; subst hw; clear _t TK17 ))
    | (go_at_call 47; have _t := TK18; go_loud (refine (ksync HK.out d7_ok (HT2.out.below (HK.out.bel HF.out HSZ2.out)) okB' 5 4 ⟨by decide, by decide⟩ ([]) 0 rfl kC_f kC_o).mono ?_; rintro e w27 ⟨A27, c27, rfl, hf, h1, h2⟩; have HR27 := Aside0.mk hf; replace HF := Aside0.mk (HF.out.trans h2); replace HK := Aside0.mk h1; clear _t TK18 hf h1 h2))
    | (go_at_call 47; have _t := TK19; go_loud (refine (ksync HK.out d7_ok (HT2.out.below (HK.out.bel HF.out HSZ2.out)) okC' 6 5 ⟨by decide, by decide⟩ ([frZ 897 [7]]) 1 rfl kD_f kD_o).mono ?_; rintro e w28 ⟨A28, c28, rfl, hf, h1, h2⟩; have HR28 := Aside0.mk hf; replace HF := Aside0.mk (HF.out.trans h2); replace HK := Aside0.mk h1; clear _t TK19 hf h1 h2))
    | (go_at_call 46; have _t := TK20; go_loud (refine (is_fr 897 7 A28 c28 (by decide) (by decide) w28 HR28.out).mono ?_; rintro e w' ⟨rfl, hw⟩; subst hw; clear _t TK20 ))
    | (go_at_call 60; have _t := TK21; go_loud (refine (kwant HK.out 0 (by omega) rfl kw_o).mono ?_; rintro e w29 ⟨rfl, h1, h2⟩; replace HF := Aside0.mk (HF.out.trans h2); replace HK := Aside0.mk h1; clear _t TK21 h1 h2))
    | (go_at_call 60; have _t := TK22; go_loud (refine (pwant_off g _ osE _ _ true 5 1 (by omega) _ HK.out.ex.choose_spec.choose_spec (.inr rfl)).mono ?_; rintro e w' ⟨rfl, hw⟩; subst hw; clear _t TK22 ))
    | (go_at_call 60; have _t := TK23; go_loud (refine (pwant_out g _ osE _ _ true 5 8 _ HK.out.ex.choose_spec.choose_spec (.inr (by decide))).mono ?_; rintro e w' ⟨rfl, hw⟩; subst hw; clear _t TK23 ))
    | (go_at_call 60; have _t := TK24; go_loud (refine (pwant_out g _ osE _ _ true 5 (-1) _ HK.out.ex.choose_spec.choose_spec (.inl (by decide))).mono ?_; rintro e w' ⟨rfl, hw⟩; subst hw; clear _t TK24 ))
    | (go_at_call 45; have _t := TK25; go_loud (refine (ktick HK.out d7_ok (HT2.out.below (HK.out.bel HF.out HSZ2.out)) okE' 19 ⟨by decide, by decide⟩ ([]) 0 rfl kE_f kE_o).mono ?_; rintro e w30 ⟨A30, c30, rfl, hf, h1, h2⟩; have HR30 := Aside0.mk hf; replace HF := Aside0.mk (HF.out.trans h2); replace HK := Aside0.mk h1; clear _t TK25 hf h1 h2))
    | (go_at_call 45; have _t := TK26; go_loud (refine (ktick HK.out d7_ok (HT2.out.below (HK.out.bel HF.out HSZ2.out)) okE' 20 ⟨by decide, by decide⟩ ([frZ 385 [7]]) 1 rfl kF_f kF_o).mono ?_; rintro e w31 ⟨A31, c31, rfl, hf, h1, h2⟩; have HR31 := Aside0.mk hf; replace HF := Aside0.mk (HF.out.trans h2); replace HK := Aside0.mk h1; clear _t TK26 hf h1 h2))
    | (go_at_call 46; have _t := TK27; go_loud (refine (is_fr 385 7 A31 c31 (by decide) (by decide) w31 HR31.out).mono ?_; rintro e w' ⟨rfl, hw⟩; subst hw; clear _t TK27 ))
    | (go_at_call 45; have _t := TK28; go_loud (refine (ktick HK.out d7_ok (HT2.out.below (HK.out.bel HF.out HSZ2.out)) okF' 69 ⟨by decide, by decide⟩ ([]) 0 rfl kG_f kG_o).mono ?_; rintro e w32 ⟨A32, c32, rfl, hf, h1, h2⟩; have HR32 := Aside0.mk hf; replace HF := Aside0.mk (HF.out.trans h2); replace HK := Aside0.mk h1; clear _t TK28 hf h1 h2))
    | (go_at_call 45; have _t := TK29; go_loud (refine (ktick HK.out d7_ok (HT2.out.below (HK.out.bel HF.out HSZ2.out)) okF' 70 ⟨by decide, by decide⟩ ([frZ 385 [7]]) 1 rfl kH_f kH_o).mono ?_; rintro e w33 ⟨A33, c33, rfl, hf, h1, h2⟩; have HR33 := Aside0.mk hf; replace HF := Aside0.mk (HF.out.trans h2); replace HK := Aside0.mk h1; clear _t TK29 hf h1 h2))
    | (go_at_call 46; have _t := TK30; go_loud (refine (is_fr 385 7 A33 c33 (by decide) (by decide) w33 HR33.out).mono ?_; rintro e w' ⟨rfl, hw⟩; subst hw; clear _t TK30 ))
    | (go_at_call 61; have _t := TK31; go_loud (refine (kstop HK.out).mono ?_; rintro e w34 ⟨rfl, h1, h2⟩; replace HF := Aside0.mk (HF.out.trans h2); replace HK := Aside0.mk h1; clear _t TK31 h1 h2))
    | (go_at_call 45; have _t := TK32; go_loud (refine (ptick_stands g _ osG _ _ 70 999 _ HK.out.ex.choose_spec.choose_spec).mono ?_; rintro e w35 ⟨rfl, hb⟩; replace HF := Aside0.mk (HF.out.trans (Fr.of_below hb)); replace HK := Aside0.mk (HK.out.below hb); clear _t TK32 hb))
    | (go_at_call 47; have _t := TK33; go_loud (refine (psync_stands g _ osG _ _ 70 999 0 _ HK.out.ex.choose_spec.choose_spec).mono ?_; rintro e w36 ⟨rfl, hb⟩; replace HF := Aside0.mk (HF.out.trans (Fr.of_below hb)); replace HK := Aside0.mk (HK.out.below hb); clear _t TK33 hb))
    | (go_at_call 60; have _t := TK34; go_loud (refine (pwant_off g _ osG _ _ false 70 0 (by omega) _ HK.out.ex.choose_spec.choose_spec (.inl rfl)).mono ?_; rintro e w' ⟨rfl, hw⟩; subst hw; clear _t TK34 )))
  have HBL := Aside0.mk (blk_new w36 (.cells #[.bool false, .int .u16 2048, .int .u8 0, .int .i64 0, .int .i64 0, .int .u8 0, .bool false, .int .u16 0, .int .u8 241, .int .i64 0, .int .i64 0, .int .u8 0, .bool false, .int .u16 0, .int .u8 253, .int .i64 0, .int .i64 0, .int .u8 0, .bool false, .int .u16 0, .int .u8 0, .int .i64 (-1), .int .i64 0, .int .u8 0, .bool false, .int .u16 0, .int .u8 0, .int .i64 0, .int .i64 1099511627777, .int .u8 0, .bool false, .int .u16 0, .int .u8 0, .int .i64 0, .int .i64 0, .int .u8 241] 82))
  have HBE := Aside0.mk (show Below w36.heap.size w36 (w36.alloc (.cells #[.bool false, .int .u16 2048, .int .u8 0, .int .i64 0, .int .i64 0, .int .u8 0, .bool false, .int .u16 0, .int .u8 241, .int .i64 0, .int .i64 0, .int .u8 0, .bool false, .int .u16 0, .int .u8 253, .int .i64 0, .int .i64 0, .int .u8 0, .bool false, .int .u16 0, .int .u8 0, .int .i64 (-1), .int .i64 0, .int .u8 0, .bool false, .int .u16 0, .int .u8 0, .int .i64 0, .int .i64 1099511627777, .int .u8 0, .bool false, .int .u16 0, .int .u8 0, .int .i64 0, .int .i64 0, .int .u8 241] 82)) from below_alloc (Below.refl _ _) _)
  replace HF := Aside0.mk (HF.out.trans (Fr.of_below HBE.out))
  replace HK := Aside0.mk (HK.out.below HBE.out)
  obtain ⟨bl, hbl⟩ : ∃ bl, bl = w36.heap.size := ⟨_, rfl⟩
  rw [← hbl] at HBL
  generalize w36.alloc (.cells #[.bool false, .int .u16 2048, .int .u8 0, .int .i64 0, .int .i64 0, .int .u8 0, .bool false, .int .u16 0, .int .u8 241, .int .i64 0, .int .i64 0, .int .u8 0, .bool false, .int .u16 0, .int .u8 253, .int .i64 0, .int .i64 0, .int .u8 0, .bool false, .int .u16 0, .int .u8 0, .int .i64 (-1), .int .i64 0, .int .u8 0, .bool false, .int .u16 0, .int .u8 0, .int .i64 0, .int .i64 1099511627777, .int .u8 0, .bool false, .int .u16 0, .int .u8 0, .int .i64 0, .int .i64 0, .int .u8 241] 82) = wl at HBL HBE HF HK ⊢
  rw [← hbl]
  clear hbl
  go_loopw [10] (fun iv wr => ∃ (i : Nat), i ≤ 6 ∧ iv = .int .i64 i ∧ Aside0 (Below wl.heap.size wl wr)) (fun iv _ => 6 - (intOf iv).toNat)
  case atStart => exact ⟨0, by omega, rfl, ⟨Below.refl _ _⟩⟩
  case round =>
    obtain ⟨i, hi, rfl, HB⟩ := hrel
    by_cases hlt : i < 6
    · obtain rfl | rfl | rfl | rfl | rfl | rfl : i = 0 ∨ i = 1 ∨ i = 2 ∨ i = 3 ∨ i = 4 ∨ i = 5 := by omega
      · have HY := Aside0.mk fun (X : World) (hX : Below wl.heap.size wl X) => (show X.cell? ⟨bl, 0, none⟩ = some (.bool false) ∧ X.cell? ⟨bl, 1, none⟩ = some (.int .u16 2048) ∧ X.cell? ⟨bl, 2, none⟩ = some (.int .u8 0) ∧ X.cell? ⟨bl, 3, none⟩ = some (.int .i64 0) ∧ X.cell? ⟨bl, 4, none⟩ = some (.int .i64 0) ∧ X.cell? ⟨bl, 5, none⟩ = some (.int .u8 0) from ⟨pw_cell_below hX (Go.Proofs.YtokebpeplopjhaaDoorW.PrintWords.blk_cell HBL.out 0), pw_cell_below hX (Go.Proofs.YtokebpeplopjhaaDoorW.PrintWords.blk_cell HBL.out 1), pw_cell_below hX (Go.Proofs.YtokebpeplopjhaaDoorW.PrintWords.blk_cell HBL.out 2), pw_cell_below hX (Go.Proofs.YtokebpeplopjhaaDoorW.PrintWords.blk_cell HBL.out 3), pw_cell_below hX (Go.Proofs.YtokebpeplopjhaaDoorW.PrintWords.blk_cell HBL.out 4), pw_cell_below hX (Go.Proofs.YtokebpeplopjhaaDoorW.PrintWords.blk_cell HBL.out 5)⟩)
        obtain ⟨y0, y1, y2, y3, y4, y5⟩ := HY.out wr HB.out
        have TK35 := Aside0.mk True.intro
        have TK36 := Aside0.mk True.intro
        go_wp2_with (first
          | (go_at_call 40; have _t := TK35; go_loud (refine (pset_bad ⟨g, 0, none⟩ 0 (by omega) (badC 0) (bad_no 0) (.slice none 0 0) _).mono ?_; rintro e wa ⟨rfl, hb⟩; have HBa := Aside0.mk (below_step HB.out hb); obtain ⟨z0, z1, z2, z3, z4, z5⟩ := HY.out wa HBa.out; clear _t TK35 hb))
          | (go_at_call 40; have _t := TK36; go_loud (refine (pset_out ⟨g, 0, none⟩ 8 (.inr (by decide)) (badC 0) (.slice none 0 0) _).mono ?_; rintro e wb ⟨rfl, hb⟩; have HBb := Aside0.mk (below_step HBa.out hb); clear _t TK36 hb)))
        go_roundw
        case rel => exact ⟨1, by omega, by go_num, HBb⟩
        case measure => simp [intOf]
      · have HY := Aside0.mk fun (X : World) (hX : Below wl.heap.size wl X) => (show X.cell? ⟨bl, 6, none⟩ = some (.bool false) ∧ X.cell? ⟨bl, 7, none⟩ = some (.int .u16 0) ∧ X.cell? ⟨bl, 8, none⟩ = some (.int .u8 241) ∧ X.cell? ⟨bl, 9, none⟩ = some (.int .i64 0) ∧ X.cell? ⟨bl, 10, none⟩ = some (.int .i64 0) ∧ X.cell? ⟨bl, 11, none⟩ = some (.int .u8 0) from ⟨pw_cell_below hX (Go.Proofs.YtokebpeplopjhaaDoorW.PrintWords.blk_cell HBL.out 6), pw_cell_below hX (Go.Proofs.YtokebpeplopjhaaDoorW.PrintWords.blk_cell HBL.out 7), pw_cell_below hX (Go.Proofs.YtokebpeplopjhaaDoorW.PrintWords.blk_cell HBL.out 8), pw_cell_below hX (Go.Proofs.YtokebpeplopjhaaDoorW.PrintWords.blk_cell HBL.out 9), pw_cell_below hX (Go.Proofs.YtokebpeplopjhaaDoorW.PrintWords.blk_cell HBL.out 10), pw_cell_below hX (Go.Proofs.YtokebpeplopjhaaDoorW.PrintWords.blk_cell HBL.out 11)⟩)
        obtain ⟨y0, y1, y2, y3, y4, y5⟩ := HY.out wr HB.out
        have TK37 := Aside0.mk True.intro
        have TK38 := Aside0.mk True.intro
        go_wp2_with (first
          | (go_at_call 40; have _t := TK37; go_loud (refine (pset_bad ⟨g, 0, none⟩ 0 (by omega) (badC 1) (bad_no 1) (.slice none 0 0) _).mono ?_; rintro e wa ⟨rfl, hb⟩; have HBa := Aside0.mk (below_step HB.out hb); obtain ⟨z0, z1, z2, z3, z4, z5⟩ := HY.out wa HBa.out; clear _t TK37 hb))
          | (go_at_call 40; have _t := TK38; go_loud (refine (pset_out ⟨g, 0, none⟩ 8 (.inr (by decide)) (badC 1) (.slice none 0 0) _).mono ?_; rintro e wb ⟨rfl, hb⟩; have HBb := Aside0.mk (below_step HBa.out hb); clear _t TK38 hb)))
        go_roundw
        case rel => exact ⟨2, by omega, by go_num, HBb⟩
        case measure => simp [intOf]
      · have HY := Aside0.mk fun (X : World) (hX : Below wl.heap.size wl X) => (show X.cell? ⟨bl, 12, none⟩ = some (.bool false) ∧ X.cell? ⟨bl, 13, none⟩ = some (.int .u16 0) ∧ X.cell? ⟨bl, 14, none⟩ = some (.int .u8 253) ∧ X.cell? ⟨bl, 15, none⟩ = some (.int .i64 0) ∧ X.cell? ⟨bl, 16, none⟩ = some (.int .i64 0) ∧ X.cell? ⟨bl, 17, none⟩ = some (.int .u8 0) from ⟨pw_cell_below hX (Go.Proofs.YtokebpeplopjhaaDoorW.PrintWords.blk_cell HBL.out 12), pw_cell_below hX (Go.Proofs.YtokebpeplopjhaaDoorW.PrintWords.blk_cell HBL.out 13), pw_cell_below hX (Go.Proofs.YtokebpeplopjhaaDoorW.PrintWords.blk_cell HBL.out 14), pw_cell_below hX (Go.Proofs.YtokebpeplopjhaaDoorW.PrintWords.blk_cell HBL.out 15), pw_cell_below hX (Go.Proofs.YtokebpeplopjhaaDoorW.PrintWords.blk_cell HBL.out 16), pw_cell_below hX (Go.Proofs.YtokebpeplopjhaaDoorW.PrintWords.blk_cell HBL.out 17)⟩)
        obtain ⟨y0, y1, y2, y3, y4, y5⟩ := HY.out wr HB.out
        have TK39 := Aside0.mk True.intro
        have TK40 := Aside0.mk True.intro
        go_wp2_with (first
          | (go_at_call 40; have _t := TK39; go_loud (refine (pset_bad ⟨g, 0, none⟩ 0 (by omega) (badC 2) (bad_no 2) (.slice none 0 0) _).mono ?_; rintro e wa ⟨rfl, hb⟩; have HBa := Aside0.mk (below_step HB.out hb); obtain ⟨z0, z1, z2, z3, z4, z5⟩ := HY.out wa HBa.out; clear _t TK39 hb))
          | (go_at_call 40; have _t := TK40; go_loud (refine (pset_out ⟨g, 0, none⟩ 8 (.inr (by decide)) (badC 2) (.slice none 0 0) _).mono ?_; rintro e wb ⟨rfl, hb⟩; have HBb := Aside0.mk (below_step HBa.out hb); clear _t TK40 hb)))
        go_roundw
        case rel => exact ⟨3, by omega, by go_num, HBb⟩
        case measure => simp [intOf]
      · have HY := Aside0.mk fun (X : World) (hX : Below wl.heap.size wl X) => (show X.cell? ⟨bl, 18, none⟩ = some (.bool false) ∧ X.cell? ⟨bl, 19, none⟩ = some (.int .u16 0) ∧ X.cell? ⟨bl, 20, none⟩ = some (.int .u8 0) ∧ X.cell? ⟨bl, 21, none⟩ = some (.int .i64 (-1)) ∧ X.cell? ⟨bl, 22, none⟩ = some (.int .i64 0) ∧ X.cell? ⟨bl, 23, none⟩ = some (.int .u8 0) from ⟨pw_cell_below hX (Go.Proofs.YtokebpeplopjhaaDoorW.PrintWords.blk_cell HBL.out 18), pw_cell_below hX (Go.Proofs.YtokebpeplopjhaaDoorW.PrintWords.blk_cell HBL.out 19), pw_cell_below hX (Go.Proofs.YtokebpeplopjhaaDoorW.PrintWords.blk_cell HBL.out 20), pw_cell_below hX (Go.Proofs.YtokebpeplopjhaaDoorW.PrintWords.blk_cell HBL.out 21), pw_cell_below hX (Go.Proofs.YtokebpeplopjhaaDoorW.PrintWords.blk_cell HBL.out 22), pw_cell_below hX (Go.Proofs.YtokebpeplopjhaaDoorW.PrintWords.blk_cell HBL.out 23)⟩)
        obtain ⟨y0, y1, y2, y3, y4, y5⟩ := HY.out wr HB.out
        have TK41 := Aside0.mk True.intro
        have TK42 := Aside0.mk True.intro
        go_wp2_with (first
          | (go_at_call 40; have _t := TK41; go_loud (refine (pset_bad ⟨g, 0, none⟩ 0 (by omega) (badC 3) (bad_no 3) (.slice none 0 0) _).mono ?_; rintro e wa ⟨rfl, hb⟩; have HBa := Aside0.mk (below_step HB.out hb); obtain ⟨z0, z1, z2, z3, z4, z5⟩ := HY.out wa HBa.out; clear _t TK41 hb))
          | (go_at_call 40; have _t := TK42; go_loud (refine (pset_out ⟨g, 0, none⟩ 8 (.inr (by decide)) (badC 3) (.slice none 0 0) _).mono ?_; rintro e wb ⟨rfl, hb⟩; have HBb := Aside0.mk (below_step HBa.out hb); clear _t TK42 hb)))
        go_roundw
        case rel => exact ⟨4, by omega, by go_num, HBb⟩
        case measure => simp [intOf]
      · have HY := Aside0.mk fun (X : World) (hX : Below wl.heap.size wl X) => (show X.cell? ⟨bl, 24, none⟩ = some (.bool false) ∧ X.cell? ⟨bl, 25, none⟩ = some (.int .u16 0) ∧ X.cell? ⟨bl, 26, none⟩ = some (.int .u8 0) ∧ X.cell? ⟨bl, 27, none⟩ = some (.int .i64 0) ∧ X.cell? ⟨bl, 28, none⟩ = some (.int .i64 1099511627777) ∧ X.cell? ⟨bl, 29, none⟩ = some (.int .u8 0) from ⟨pw_cell_below hX (Go.Proofs.YtokebpeplopjhaaDoorW.PrintWords.blk_cell HBL.out 24), pw_cell_below hX (Go.Proofs.YtokebpeplopjhaaDoorW.PrintWords.blk_cell HBL.out 25), pw_cell_below hX (Go.Proofs.YtokebpeplopjhaaDoorW.PrintWords.blk_cell HBL.out 26), pw_cell_below hX (Go.Proofs.YtokebpeplopjhaaDoorW.PrintWords.blk_cell HBL.out 27), pw_cell_below hX (Go.Proofs.YtokebpeplopjhaaDoorW.PrintWords.blk_cell HBL.out 28), pw_cell_below hX (Go.Proofs.YtokebpeplopjhaaDoorW.PrintWords.blk_cell HBL.out 29)⟩)
        obtain ⟨y0, y1, y2, y3, y4, y5⟩ := HY.out wr HB.out
        have TK43 := Aside0.mk True.intro
        have TK44 := Aside0.mk True.intro
        go_wp2_with (first
          | (go_at_call 40; have _t := TK43; go_loud (refine (pset_bad ⟨g, 0, none⟩ 0 (by omega) (badC 4) (bad_no 4) (.slice none 0 0) _).mono ?_; rintro e wa ⟨rfl, hb⟩; have HBa := Aside0.mk (below_step HB.out hb); obtain ⟨z0, z1, z2, z3, z4, z5⟩ := HY.out wa HBa.out; clear _t TK43 hb))
          | (go_at_call 40; have _t := TK44; go_loud (refine (pset_out ⟨g, 0, none⟩ 8 (.inr (by decide)) (badC 4) (.slice none 0 0) _).mono ?_; rintro e wb ⟨rfl, hb⟩; have HBb := Aside0.mk (below_step HBa.out hb); clear _t TK44 hb)))
        go_roundw
        case rel => exact ⟨5, by omega, by go_num, HBb⟩
        case measure => simp [intOf]
      · have HY := Aside0.mk fun (X : World) (hX : Below wl.heap.size wl X) => (show X.cell? ⟨bl, 30, none⟩ = some (.bool false) ∧ X.cell? ⟨bl, 31, none⟩ = some (.int .u16 0) ∧ X.cell? ⟨bl, 32, none⟩ = some (.int .u8 0) ∧ X.cell? ⟨bl, 33, none⟩ = some (.int .i64 0) ∧ X.cell? ⟨bl, 34, none⟩ = some (.int .i64 0) ∧ X.cell? ⟨bl, 35, none⟩ = some (.int .u8 241) from ⟨pw_cell_below hX (Go.Proofs.YtokebpeplopjhaaDoorW.PrintWords.blk_cell HBL.out 30), pw_cell_below hX (Go.Proofs.YtokebpeplopjhaaDoorW.PrintWords.blk_cell HBL.out 31), pw_cell_below hX (Go.Proofs.YtokebpeplopjhaaDoorW.PrintWords.blk_cell HBL.out 32), pw_cell_below hX (Go.Proofs.YtokebpeplopjhaaDoorW.PrintWords.blk_cell HBL.out 33), pw_cell_below hX (Go.Proofs.YtokebpeplopjhaaDoorW.PrintWords.blk_cell HBL.out 34), pw_cell_below hX (Go.Proofs.YtokebpeplopjhaaDoorW.PrintWords.blk_cell HBL.out 35)⟩)
        obtain ⟨y0, y1, y2, y3, y4, y5⟩ := HY.out wr HB.out
        have TK45 := Aside0.mk True.intro
        have TK46 := Aside0.mk True.intro
        go_wp2_with (first
          | (go_at_call 40; have _t := TK45; go_loud (refine (pset_bad ⟨g, 0, none⟩ 0 (by omega) (badC 5) (bad_no 5) (.slice none 0 0) _).mono ?_; rintro e wa ⟨rfl, hb⟩; have HBa := Aside0.mk (below_step HB.out hb); obtain ⟨z0, z1, z2, z3, z4, z5⟩ := HY.out wa HBa.out; clear _t TK45 hb))
          | (go_at_call 40; have _t := TK46; go_loud (refine (pset_out ⟨g, 0, none⟩ 8 (.inr (by decide)) (badC 5) (.slice none 0 0) _).mono ?_; rintro e wb ⟨rfl, hb⟩; have HBb := Aside0.mk (below_step HBa.out hb); clear _t TK46 hb)))
        go_roundw
        case rel => exact ⟨6, by omega, by go_num, HBb⟩
        case measure => simp [intOf]
    · obtain rfl : i = 6 := by omega
      replace HF := Aside0.mk (HF.out.trans (Fr.of_below HB.out))
      replace HK := Aside0.mk (HK.out.below HB.out)
      have hm65 : ∀ W, (Instr.makeSlice 23 (.int .i64 65) (.int .i64 65)).run Tryd.prog W = .ok (.slice (some ⟨W.heap.size, 0, none⟩) 65 65) (W.alloc (.cells (zmp 65) 48)) := fun W => make_mp 65 (by omega) W
      have hm64 : ∀ W, (Instr.makeSlice 23 (.int .i64 64) (.int .i64 64)).run Tryd.prog W = .ok (.slice (some ⟨W.heap.size, 0, none⟩) 64 64) (W.alloc (.cells (zmp 64) 48)) := fun W => make_mp 64 (by omega) W
      have hm1 : ∀ W, (Instr.makeSlice 23 (.int .i64 1) (.int .i64 1)).run Tryd.prog W = .ok (.slice (some ⟨W.heap.size, 0, none⟩) 1 1) (W.alloc (.cells (zmp 1) 48)) := fun W => make_mp 1 (by omega) W
      have TK47 := Aside0.mk True.intro
      have TK48 := Aside0.mk True.intro
      have TK49 := Aside0.mk True.intro
      have TK50 := Aside0.mk True.intro
      have TK51 := Aside0.mk True.intro
      have TK52 := Aside0.mk True.intro
      have TK53 := Aside0.mk True.intro
      have TK54 := Aside0.mk True.intro
      have TK55 := Aside0.mk True.intro
      go_wp2_with (first
        | (go_at_call 40; have _t := TK47; go_loud (refine (pset_long ⟨g, 0, none⟩ 0 (by omega) zCm (by decide) (some ⟨_, 0, none⟩) 65 65 (by omega) _).mono ?_; rintro e w37 ⟨rfl, hb⟩; replace HF := Aside0.mk (HF.out.trans ((Fr.of_below (below_alloc (Below.refl _ _) _)).trans (Fr.of_below hb))); replace HK := Aside0.mk ((HK.out.below (below_alloc (Below.refl _ _) _)).below hb); clear _t TK47 hb))
        | (go_at_call 40; have _t := TK48; go_loud (refine (kset_z (HK.out.below (below_alloc (Below.refl _ _) _)) _ 64 (by omega) (blk_new _ _) (by have := HK.out.lt; omega)).mono ?_; rintro e w38 ⟨rfl, h1, h2⟩; replace HF := Aside0.mk (HF.out.trans ((Fr.of_below (below_alloc (Below.refl _ _) _)).trans h2)); replace HK := Aside0.mk h1; clear _t TK48 h1 h2))
        | (go_at_call 40; have _t := TK49; go_loud (refine (kset_c (HK.out.below (below_alloc (Below.refl _ _) _)) (TblB.tbl (TblB.below HT2.out ((HK.out.bel HF.out HSZ2.out).trans ((below_alloc (Below.refl _ _) _).mono (Nat.le_trans HSZ2.out HF.out.size))))) _ (blk_new _ _)).mono ?_; rintro e w39 ⟨rfl, hb⟩; replace HF := Aside0.mk (HF.out.trans ((Fr.of_below (below_alloc (Below.refl _ _) _)).trans (Fr.of_below hb))); replace HK := Aside0.mk ((HK.out.below (below_alloc (Below.refl _ _) _)).below hb); clear _t TK49 hb))
        | (go_at_call 40; have _t := TK50; go_loud (refine (pset_out ⟨g, 0, none⟩ (-1) (.inl (by decide)) zCm (.slice none 0 0) _).mono ?_; rintro e w40 ⟨rfl, hb⟩; replace HF := Aside0.mk (HF.out.trans (Fr.of_below hb)); replace HK := Aside0.mk (HK.out.below hb); clear _t TK50 hb))
        | (go_at_call 43; have _t := TK51; go_loud (refine (pstart_nil 1 _).mono ?_; rintro e w' ⟨rfl, hw⟩; subst hw; clear _t TK51 ))
        | (go_at_call 61; have _t := TK52; go_loud (refine (pstop_nil _).mono ?_; rintro e w' ⟨rfl, hw⟩; subst hw; clear _t TK52 ))
        | (go_at_call 62; have _t := TK53; go_loud (refine (pcomm_nil 0 _).mono ?_; rintro e w41 ⟨rfl, hb⟩; replace HF := Aside0.mk (HF.out.trans (Fr.of_below hb)); replace HK := Aside0.mk (HK.out.below hb); clear _t TK53 hb))
        | (go_at_call 59; have _t := TK54; go_loud (refine (pdue_nil _).mono ?_; rintro e w' ⟨rfl, hw⟩; subst hw; clear _t TK54 ))
        | (go_at_call 62; have _t := TK55; go_loud (refine (pcomm_out ⟨g, 0, none⟩ 8 (by decide) _).mono ?_; rintro e w42 ⟨rfl, hb⟩; have HB13 := Aside0.mk (blk_below (blk_new w41 (.cells #[.bool false, .int .u16 0, .int .u8 0, .int .i64 0, .int .i64 0, .int .u8 0] 82)) hb); replace HF := Aside0.mk (HF.out.trans ((Fr.of_below (below_alloc (Below.refl _ _) _)).trans (Fr.of_below hb))); replace HK := Aside0.mk ((HK.out.below (below_alloc (Below.refl _ _) _)).below hb); clear _t TK55 hb)))
      have HB17 := Aside0.mk (blk_new w42 (.cells #[.bool false, .int .u16 0, .int .u8 0, .int .i64 0, .int .i64 0, .int .u8 0] 82))
      have HBZ := Aside0.mk (show Below w42.heap.size w42 (w42.alloc (.cells #[.bool false, .int .u16 0, .int .u8 0, .int .i64 0, .int .i64 0, .int .u8 0] 82)) from below_alloc (Below.refl _ _) _)
      have HB13' := Aside0.mk (blk_below HB13.out HBZ.out)
      replace HF := Aside0.mk (HF.out.trans (Fr.of_below HBZ.out))
      replace HK := Aside0.mk (HK.out.below HBZ.out)
      obtain ⟨b13, hb13⟩ : ∃ b13, b13 = w41.heap.size := ⟨_, rfl⟩
      obtain ⟨b17, hb17⟩ : ∃ b17, b17 = w42.heap.size := ⟨_, rfl⟩
      rw [← hb13] at HB13'
      rw [← hb17] at HB17
      generalize w42.alloc (.cells #[.bool false, .int .u16 0, .int .u8 0, .int .i64 0, .int .i64 0, .int .u8 0] 82) = wz at HB17 HBZ HB13' HF HK ⊢
      rw [← hb13, ← hb17]
      have HBB := Aside0.mk (HK.out.bel HF.out HSZ2.out)
      clear hb13 hb17 HB13 hm65 hm64 hm1
      have a0 : ∀ X, Below wz.heap.size wz X → X.cell? ⟨bx, 0, none⟩ = some (.bool true) := fun X hX => pw_cell_below hX (HF.out.cell (Go.Proofs.YtokebpeplopjhaaDoorW.PrintWords.blk_cell HBX.out 0) HNE.out)
      have b0 : ∀ X, Below wz.heap.size wz X → X.cell? ⟨b13, 0, none⟩ = some (.bool false) := fun X hX => pw_cell_below hX (Go.Proofs.YtokebpeplopjhaaDoorW.PrintWords.blk_cell HB13'.out 0)
      have c0 : ∀ X, Below wz.heap.size wz X → X.cell? ⟨b17, 0, none⟩ = some (.bool false) := fun X hX => pw_cell_below hX (Go.Proofs.YtokebpeplopjhaaDoorW.PrintWords.blk_cell HB17.out 0)
      have a1 : ∀ X, Below wz.heap.size wz X → X.cell? ⟨bx, 1, none⟩ = some (.int .u16 385) := fun X hX => pw_cell_below hX (HF.out.cell (Go.Proofs.YtokebpeplopjhaaDoorW.PrintWords.blk_cell HBX.out 1) HNE.out)
      have b1 : ∀ X, Below wz.heap.size wz X → X.cell? ⟨b13, 1, none⟩ = some (.int .u16 0) := fun X hX => pw_cell_below hX (Go.Proofs.YtokebpeplopjhaaDoorW.PrintWords.blk_cell HB13'.out 1)
      have c1 : ∀ X, Below wz.heap.size wz X → X.cell? ⟨b17, 1, none⟩ = some (.int .u16 0) := fun X hX => pw_cell_below hX (Go.Proofs.YtokebpeplopjhaaDoorW.PrintWords.blk_cell HB17.out 1)
      have a2 : ∀ X, Below wz.heap.size wz X → X.cell? ⟨bx, 2, none⟩ = some (.int .u8 255) := fun X hX => pw_cell_below hX (HF.out.cell (Go.Proofs.YtokebpeplopjhaaDoorW.PrintWords.blk_cell HBX.out 2) HNE.out)
      have b2 : ∀ X, Below wz.heap.size wz X → X.cell? ⟨b13, 2, none⟩ = some (.int .u8 0) := fun X hX => pw_cell_below hX (Go.Proofs.YtokebpeplopjhaaDoorW.PrintWords.blk_cell HB13'.out 2)
      have c2 : ∀ X, Below wz.heap.size wz X → X.cell? ⟨b17, 2, none⟩ = some (.int .u8 0) := fun X hX => pw_cell_below hX (Go.Proofs.YtokebpeplopjhaaDoorW.PrintWords.blk_cell HB17.out 2)
      have a3 : ∀ X, Below wz.heap.size wz X → X.cell? ⟨bx, 3, none⟩ = some (.int .i64 10) := fun X hX => pw_cell_below hX (HF.out.cell (Go.Proofs.YtokebpeplopjhaaDoorW.PrintWords.blk_cell HBX.out 3) HNE.out)
      have b3 : ∀ X, Below wz.heap.size wz X → X.cell? ⟨b13, 3, none⟩ = some (.int .i64 0) := fun X hX => pw_cell_below hX (Go.Proofs.YtokebpeplopjhaaDoorW.PrintWords.blk_cell HB13'.out 3)
      have c3 : ∀ X, Below wz.heap.size wz X → X.cell? ⟨b17, 3, none⟩ = some (.int .i64 0) := fun X hX => pw_cell_below hX (Go.Proofs.YtokebpeplopjhaaDoorW.PrintWords.blk_cell HB17.out 3)
      have a4 : ∀ X, Below wz.heap.size wz X → X.cell? ⟨bx, 4, none⟩ = some (.int .i64 50) := fun X hX => pw_cell_below hX (HF.out.cell (Go.Proofs.YtokebpeplopjhaaDoorW.PrintWords.blk_cell HBX.out 4) HNE.out)
      have b4 : ∀ X, Below wz.heap.size wz X → X.cell? ⟨b13, 4, none⟩ = some (.int .i64 0) := fun X hX => pw_cell_below hX (Go.Proofs.YtokebpeplopjhaaDoorW.PrintWords.blk_cell HB13'.out 4)
      have c4 : ∀ X, Below wz.heap.size wz X → X.cell? ⟨b17, 4, none⟩ = some (.int .i64 0) := fun X hX => pw_cell_below hX (Go.Proofs.YtokebpeplopjhaaDoorW.PrintWords.blk_cell HB17.out 4)
      have a5 : ∀ X, Below wz.heap.size wz X → X.cell? ⟨bx, 5, none⟩ = some (.int .u8 0) := fun X hX => pw_cell_below hX (HF.out.cell (Go.Proofs.YtokebpeplopjhaaDoorW.PrintWords.blk_cell HBX.out 5) HNE.out)
      have b5 : ∀ X, Below wz.heap.size wz X → X.cell? ⟨b13, 5, none⟩ = some (.int .u8 0) := fun X hX => pw_cell_below hX (Go.Proofs.YtokebpeplopjhaaDoorW.PrintWords.blk_cell HB13'.out 5)
      have c5 : ∀ X, Below wz.heap.size wz X → X.cell? ⟨b17, 5, none⟩ = some (.int .u8 0) := fun X hX => pw_cell_below hX (Go.Proofs.YtokebpeplopjhaaDoorW.PrintWords.blk_cell HB17.out 5)
      have hS0 : Below wz.heap.size wz wz.drew := below_drew (Below.refl _ _)
      simp only [List.append_eq, List.cons_append, List.nil_append]
      go_region_held3 (fun X => Below wz.heap.size wz X) (first | assumption | exact hS0)
        (first
          | (go_at_call 63; go_loud (refine (pnew_nil _).mono ?_; rintro e w' ⟨rfl, hw⟩; subst hw))
          | (go_at_call 41; go_loud (refine (lone_any _).mono ?_; rintro e v1 ⟨glz, rfl, -, -, hb1⟩; have hs1 := below_step (by assumption) hb1))
          | (go_at_call 40; go_loud (refine (pset_nil 0 cA _ _).mono ?_; rintro e v2 ⟨rfl, hb2⟩; have hs2 := below_step (by assumption) hb2))
          | (go_at_call 60; go_loud (refine (pwant_nil 0 _).mono ?_; rintro e w' ⟨rfl, hw⟩; subst hw))
          | (go_at_call 47; go_loud (refine (psync_nil 1 0 _).mono ?_; rintro e v3 ⟨rfl, hb3⟩; have hs3 := below_step (by assumption) hb3))
          | (go_at_call 45; go_loud (refine (ptick_nil 1 _).mono ?_; rintro e v4 ⟨rfl, hb4⟩; have hs4 := below_step (by assumption) hb4))
          | (go_at_call 42; go_loud (refine (works13_any _ (TblB.tbl (TblB.below HT2.out (HBB.out.trans ((show Below wz.heap.size wz _ by assumption).mono (Nat.le_trans HSZ2.out HF.out.size)))))).mono ?_; rintro e v5 ⟨rfl, hb5⟩; have hs5 := below_step (by assumption) hb5; have HS5 := Aside0.mk hs5)))
      clear a0 a1 a2 a3 a4 a5 b0 b1 b2 b3 b4 b5 c0 c1 c2 c3 c4 c5
      go_wp2
      go_ret
      exact ⟨rfl, HBW.out.trans (HBB.out.trans (HS5.out.mono (Nat.le_trans HSZ2.out HF.out.size)))⟩
end Go.Proofs.YtokebpeplopjhaaDoor.Mp
