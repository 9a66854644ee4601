/- The law's three entries and their mapping. What dict.New makes is good; the law's dictionary, plainly. The law's examples work. Rows off a block; each byte stays; a dictionary behind a store elsewhere; what is packed, where it may be. A producer in memory; New, begin. slices.Clone of Maps. Producers: begin, New, Start. -/
import Derived.Test.YtokebpeplopjhaaDoorY12
import Derived.Test.YtokebpeplopjhaaDoorY11
namespace Go.Proofs.YtokebpeplopjhaaDoor.Mp
open Go.RowKit Go.Shelf Go.Proofs.YtokebpeplopjhaaDoor.Rng Go.Proofs.YtokebpeplopjhaaDoorW.PrintWords Go.Proofs.YtokebpeplopjhaaDoorW.PrintMore Go.Proofs.YtokebpeplopjhaaDoorW.PrintLast

def threeE : List En := [eX 1 5 [3], eX 2 1 [1], eX 3 3 [254, 255]]
def threeM : List Mp := [⟨24576, 1, 8⟩, ⟨24576, 2, 1⟩, ⟨24576, 3, 16⟩]
theorem arg_new {w W : World} (zs : List Int) (hb : Byt zs) (hl : zs.length ≤ 1000) (hw : W = w.alloc (.cells (zs.map (Value.int .u8)).toArray 5)) : Arg W (some ⟨w.heap.size, 0, none⟩) zs.length zs := by
  subst hw
  have hn := blk_new w (.cells (zs.map (Value.int .u8)).toArray 5)
  refine ⟨⟨by omega, fun _ => ⟨_, rfl, fun j hj => ?_⟩⟩, hb, Nat.le_refl _, ?_⟩
  · rw [show (⟨w.heap.size, 0, none⟩ : Addr).add j = ⟨w.heap.size, j, none⟩ from add_plain _ _]
    rw [blk_cell hn j]
    simp [hj]
  · have hmx : maxLen = 9223372036854775807 := rfl
    omega
theorem byt_of (zs : List Int) (h : zs.all (fun x => decide (0 ≤ x ∧ x < 256)) = true) : Byt zs := fun x hx => by simpa using List.all_eq_true.1 h x hx
theorem en_parts {w : World} {x : En} {a b c : Value} {i s t r g d : Value} {n : Value} (h : EnV w (.agg #[i, s, n, t, r, a, b, c, g, d]) x) : ArgV w a x.df ∧ ArgV w b x.lo ∧ ArgV w c x.hi := by
  obtain ⟨v1, v2, v3, e, h1, h2, h3⟩ := h
  simp only [Value.agg.injEq, Array.mk.injEq, List.cons.injEq, and_true] at e
  obtain ⟨-, -, -, -, -, rfl, rfl, rfl, -⟩ := e
  exact ⟨h1, h2, h3⟩
theorem es_cell {W : World} {g : Nat} {t : TypeId} {cs : Array Value} (h : W.heap[g]? = some (.cells cs t (0, 0))) (j : Nat) (c : List Value) (hc : c.length = 10) (hs : ∀ i, i < 10 → cs[j * 10 + i]? = c[i]?) (i : Nat) (u : Value) (hu : c[i]? = some u) : W.cell? ((⟨g, 0, none⟩ : Addr).add (j * 10 + i)) = some u := by
  have hi : i < 10 := by rw [← hc]; exact (List.getElem?_eq_some_iff.1 hu).1
  rw [show (⟨g, 0, none⟩ : Addr).add (j * 10 + i) = ⟨g, j * 10 + i, none⟩ from add_plain _ _, blk_cell h, hs i hi, hu]
set_option maxRecDepth 100000 in
set_option maxHeartbeats 2000000 in
theorem three_any (w : World) :
    Calls Tryd.prog 28 #[] w fun e w' => ∃ g1 g2, e = .returned (.tuple #[.slice (some ⟨g1, 0, none⟩) 3 3, .slice (some ⟨g2, 0, none⟩) 3 3]) ∧ EsAt w' (some ⟨g1, 0, none⟩) threeE ∧ MsAt w' (some ⟨g2, 0, none⟩) threeM ∧ Below w.heap.size w w' := by
  have A1 := Aside0.mk (arg_new (w := w) [3] (byt_of _ rfl) (by decide) rfl)
  have A2 := Aside0.mk fun X => (arg_new (w := X) [1] (byt_of _ rfl) (by decide) rfl)
  have A3 := Aside0.mk fun X => (arg_new (w := X) [254, 255] (byt_of _ rfl) (by decide) rfl)
  go_enter Tryd.func28, Tryd.ntmps28
  go_wp2_with (first
    | (go_at_call 81; refine (entry_any 1 5 _ 1 [3] _ A1.out (by decide)).mono ?_; rintro e w1 ⟨v1, rfl, hv, hb⟩; have HV1 := Aside0.mk hv; have HB1 := Aside0.mk ((below_alloc (Below.refl _ _) _).trans (hb.mono (by simp))); obtain ⟨_, _, _, rfl, ⟨P1, p1, rfl, -⟩, ⟨Q1, q1, rfl, -⟩, ⟨R1, r1, rfl, -⟩⟩ := hv; clear hb A1)
    | (go_at_call 81; refine (entry_any 2 1 _ 1 [1] _ (A2.out _) (by decide)).mono ?_; rintro e w2 ⟨v2, rfl, hv, hb⟩; have HV2 := Aside0.mk hv; have HB2 := Aside0.mk ((below_alloc (Below.refl _ _) _).trans (hb.mono (by simp))); obtain ⟨_, _, _, rfl, ⟨P2, p2, rfl, -⟩, ⟨Q2, q2, rfl, -⟩, ⟨R2, r2, rfl, -⟩⟩ := hv; clear hb A2)
    | (go_at_call 81; refine (entry_any 3 3 _ 2 [254, 255] _ (A3.out _) (by decide)).mono ?_; rintro e w3 ⟨v3, rfl, hv, hb⟩; have HV3 := Aside0.mk hv; have HB3 := Aside0.mk ((below_alloc (Below.refl _ _) _).trans (hb.mono (by simp))); obtain ⟨_, _, _, rfl, ⟨P3, p3, rfl, -⟩, ⟨Q3, q3, rfl, -⟩, ⟨R3, r3, rfl, -⟩⟩ := hv; clear hb A3))
  have z1 := en_parts HV1.out
  have z2 := en_parts HV2.out
  have z3 := en_parts HV3.out
  go_ret2
  refine ⟨w3.heap.size, w3.heap.size + 1, rfl, ?_, ?_, ?_⟩
  · have h := blk_alloc (blk_new w3 (.cells #[.int .u16 (eX 1 5 [3]).ix, .int .u8 (eX 1 5 [3]).sub, .string (eX 1 5 [3]).name, .int .u8 (eX 1 5 [3]).ty, .int .u8 (eX 1 5 [3]).rt, .slice P1 (eX 1 5 [3]).df.length p1, .slice Q1 (eX 1 5 [3]).lo.length q1, .slice R1 (eX 1 5 [3]).hi.length r1, .int .u8 (eX 1 5 [3]).tag, .int .u8 (eX 1 5 [3]).grp, .int .u16 (eX 2 1 [1]).ix, .int .u8 (eX 2 1 [1]).sub, .string (eX 2 1 [1]).name, .int .u8 (eX 2 1 [1]).ty, .int .u8 (eX 2 1 [1]).rt, .slice P2 (eX 2 1 [1]).df.length p2, .slice Q2 (eX 2 1 [1]).lo.length q2, .slice R2 (eX 2 1 [1]).hi.length r2, .int .u8 (eX 2 1 [1]).tag, .int .u8 (eX 2 1 [1]).grp, .int .u16 (eX 3 3 [254, 255]).ix, .int .u8 (eX 3 3 [254, 255]).sub, .string (eX 3 3 [254, 255]).name, .int .u8 (eX 3 3 [254, 255]).ty, .int .u8 (eX 3 3 [254, 255]).rt, .slice P3 (eX 3 3 [254, 255]).df.length p3, .slice Q3 (eX 3 3 [254, 255]).lo.length q3, .slice R3 (eX 3 3 [254, 255]).hi.length r3, .int .u8 (eX 3 3 [254, 255]).tag, .int .u8 (eX 3 3 [254, 255]).grp] 121)) (.cells #[.int .u16 24576, .int .u8 1, .int .i64 8, .int .u16 24576, .int .u8 2, .int .i64 1, .int .u16 24576, .int .u8 3, .int .i64 16] 48)
    have hb : ∀ o o', Below w3.heap.size w3 ((w3.alloc o).alloc o') := fun o o' => (below_alloc (Below.refl w3.heap.size w3) _).alloc (by simp) _
    have hb2 := fun o o' => HB3.out.trans ((hb o o').mono HB3.out.size)
    have hb1 := fun o o' => HB2.out.trans ((hb2 o o').mono HB2.out.size)
    intro j e hj
    match j, hj with
    | 0, hj =>
      injection hj with hj
      subst hj
      exact ⟨_, _, _, _, rfl, es_cell h 0 _ rfl (fun i hi => match i, hi with | 0, _ => rfl | 1, _ => rfl | 2, _ => rfl | 3, _ => rfl | 4, _ => rfl | 5, _ => rfl | 6, _ => rfl | 7, _ => rfl | 8, _ => rfl | 9, _ => rfl | n + 10, h => absurd h (by omega)), z1.1.below (hb1 _ _), z1.2.1.below (hb1 _ _), z1.2.2.below (hb1 _ _)⟩
    | 1, hj =>
      injection hj with hj
      subst hj
      exact ⟨_, _, _, _, rfl, es_cell h 1 _ rfl (fun i hi => match i, hi with | 0, _ => rfl | 1, _ => rfl | 2, _ => rfl | 3, _ => rfl | 4, _ => rfl | 5, _ => rfl | 6, _ => rfl | 7, _ => rfl | 8, _ => rfl | 9, _ => rfl | n + 10, h => absurd h (by omega)), z2.1.below (hb2 _ _), z2.2.1.below (hb2 _ _), z2.2.2.below (hb2 _ _)⟩
    | 2, hj =>
      injection hj with hj
      subst hj
      exact ⟨_, _, _, _, rfl, es_cell h 2 _ rfl (fun i hi => match i, hi with | 0, _ => rfl | 1, _ => rfl | 2, _ => rfl | 3, _ => rfl | 4, _ => rfl | 5, _ => rfl | 6, _ => rfl | 7, _ => rfl | 8, _ => rfl | 9, _ => rfl | n + 10, h => absurd h (by omega)), z3.1.below (hb _ _), z3.2.1.below (hb _ _), z3.2.2.below (hb _ _)⟩
  · have h : ∀ o, ((w3.alloc o).alloc (.cells #[.int .u16 24576, .int .u8 1, .int .i64 8, .int .u16 24576, .int .u8 2, .int .i64 1, .int .u16 24576, .int .u8 3, .int .i64 16] 48)).heap[w3.heap.size + 1]? = some (.cells #[.int .u16 24576, .int .u8 1, .int .i64 8, .int .u16 24576, .int .u8 2, .int .i64 1, .int .u16 24576, .int .u8 3, .int .i64 16] 48 (0, 0)) := fun o => by
      have := blk_new (w3.alloc o) (.cells #[.int .u16 24576, .int .u8 1, .int .i64 8, .int .u16 24576, .int .u8 2, .int .i64 1, .int .u16 24576, .int .u8 3, .int .i64 16] 48)
      rwa [World.size_alloc] at this
    intro j m hj
    match j, hj with
    | 0, hj =>
      injection hj with hj
      subst hj
      exact ⟨_, rfl, (by rw [show ∀ n, (⟨w3.heap.size + 1, 0, none⟩ : Addr).add n = ⟨w3.heap.size + 1, n, none⟩ from fun _ => add_plain _ _]; exact blk_cell (h _) 0), (by rw [show ∀ n, (⟨w3.heap.size + 1, 0, none⟩ : Addr).add n = ⟨w3.heap.size + 1, n, none⟩ from fun _ => add_plain _ _]; exact blk_cell (h _) 1), (by rw [show ∀ n, (⟨w3.heap.size + 1, 0, none⟩ : Addr).add n = ⟨w3.heap.size + 1, n, none⟩ from fun _ => add_plain _ _]; exact blk_cell (h _) 2)⟩
    | 1, hj =>
      injection hj with hj
      subst hj
      exact ⟨_, rfl, (by rw [show ∀ n, (⟨w3.heap.size + 1, 0, none⟩ : Addr).add n = ⟨w3.heap.size + 1, n, none⟩ from fun _ => add_plain _ _]; exact blk_cell (h _) 3), (by rw [show ∀ n, (⟨w3.heap.size + 1, 0, none⟩ : Addr).add n = ⟨w3.heap.size + 1, n, none⟩ from fun _ => add_plain _ _]; exact blk_cell (h _) 4), (by rw [show ∀ n, (⟨w3.heap.size + 1, 0, none⟩ : Addr).add n = ⟨w3.heap.size + 1, n, none⟩ from fun _ => add_plain _ _]; exact blk_cell (h _) 5)⟩
    | 2, hj =>
      injection hj with hj
      subst hj
      exact ⟨_, rfl, (by rw [show ∀ n, (⟨w3.heap.size + 1, 0, none⟩ : Addr).add n = ⟨w3.heap.size + 1, n, none⟩ from fun _ => add_plain _ _]; exact blk_cell (h _) 6), (by rw [show ∀ n, (⟨w3.heap.size + 1, 0, none⟩ : Addr).add n = ⟨w3.heap.size + 1, n, none⟩ from fun _ => add_plain _ _]; exact blk_cell (h _) 7), (by rw [show ∀ n, (⟨w3.heap.size + 1, 0, none⟩ : Addr).add n = ⟨w3.heap.size + 1, n, none⟩ from fun _ => add_plain _ _]; exact blk_cell (h _) 8)⟩
  · have hb : ∀ o o', Below w3.heap.size w3 ((w3.alloc o).alloc o') := fun o o' => (below_alloc (Below.refl w3.heap.size w3) _).alloc (by simp) _
    have hb2 := fun o o' => HB3.out.trans ((hb o o').mono HB3.out.size)
    have hb1 := fun o o' => HB2.out.trans ((hb2 o o').mono HB2.out.size)
    exact HB1.out.trans ((hb1 _ _).mono HB1.out.size)
end Go.Proofs.YtokebpeplopjhaaDoor.Mp
namespace Go.Proofs.YtokebpeplopjhaaDoor.Mp
open Go.RowKit Go.Shelf Go.Proofs.YtokebpeplopjhaaDoor.Rng Go.Proofs.YtokebpeplopjhaaDoorW.PrintWords Go.Proofs.YtokebpeplopjhaaDoorW.PrintMore Go.Proofs.YtokebpeplopjhaaDoorW.PrintLast

theorem Good.none : Good DD.none := ⟨fun _ _ _ h => by simp [DD.none] at h⟩
theorem byt_first {e : En} (h : Byt e.df) : Byt (firstC e) := by
  unfold firstC
  split
  · exact h
  · exact byt_zero _
theorem Good.add {d : DD} (hd : Good d) {e : En} (he : e.Wf) (hb : Byt e.df) (hm : mayC chkC e) : Good (d.add e) := by
  refine ⟨fun i s x hx => ?_⟩
  simp only [DD.add] at hx
  by_cases h : i = e.ix ∧ s = e.sub
  · rw [if_pos h] at hx
    injection hx with hx
    subst hx
    exact ⟨he, h.1.symm, h.2.symm, chk_plain hm.2.2.2.2.2.2, byt_first hb⟩
  · rw [if_neg h] at hx
    exact hd.it i s x hx
theorem good_new : ∀ {l : List En} {d : DD}, Good d → (∀ e ∈ l, e.Wf ∧ Byt e.df) → Good (newC l d).2
  | [], _, h, _ => h
  | e :: r, d, h, hl => by
    unfold newC
    split
    · exact h
    · rename_i hm
      split
      · exact h
      · exact good_new (h.add (hl e (by simp)).1 (hl e (by simp)).2 (by simpa using hm)) (fun x hx => hl x (by simp [hx]))
def d3 : DD := (newC threeE DD.none).2
def vs3 : List Vl := [((24576, 1), [5]), ((24576, 2), [0]), ((24576, 3), [1, 0])]
theorem threeE_ok : ∀ e ∈ threeE, e.Wf ∧ Byt e.df := by
  intro e he
  simp only [threeE, List.mem_cons, List.not_mem_nil, or_false] at he
  rcases he with rfl | rfl | rfl <;> exact ⟨⟨by decide, by decide, by decide, by decide, by decide, by decide, by decide⟩, byt_of _ rfl⟩
theorem threeM_ok : ∀ m ∈ threeM, m.Wf := by
  intro m hm
  simp only [threeM, List.mem_cons, List.not_mem_nil, or_false] at hm
  rcases hm with rfl | rfl | rfl <;> exact ⟨by decide, by decide, by decide⟩
theorem d3_good : Good d3 := good_new Good.none threeE_ok
theorem new3 : newR threeE = (0, some d3) := by
  have h : (newC threeE DD.none).1 = 0 := by decide +kernel
  unfold newR
  rw [if_neg (by decide), if_pos h, h]
  rfl
theorem check3 : checkC (some d3) threeM true = 0 := by decide +kernel
theorem pack3 : packC (some d3) threeM = [3, 253, 255, 1] := by decide +kernel
theorem size3 : sizeC threeM = 4 := by decide +kernel
theorem val3 : ∀ m ∈ threeM, m.bits.toNat ≤ 8 * (valC (some d3) m).length := by
  intro m hm
  simp only [threeM, List.mem_cons, List.not_mem_nil, or_false] at hm
  rcases hm with rfl | rfl | rfl <;> decide +kernel
theorem unpack3 : unpackC (some d3) threeM [5, 2, 0, 0] = (vs3, 0) := by decide +kernel
theorem find3 : (findC (some (writesC d3 vs3)) 24576 3).2 = 0 ∧ (findC (some (writesC d3 vs3)) 24576 3).1.val = [1, 0] := by decide +kernel
end Go.Proofs.YtokebpeplopjhaaDoor.Mp
namespace Go.Proofs.YtokebpeplopjhaaDoor.Mp
open Go.RowKit Go.Shelf Go.Proofs.YtokebpeplopjhaaDoor.Rng Go.Proofs.YtokebpeplopjhaaDoorW.PrintWords Go.Proofs.YtokebpeplopjhaaDoorW.PrintMore Go.Proofs.YtokebpeplopjhaaDoorW.PrintLast

theorem str_at {w : World} {A : Option Addr} {n c : Nat} {zs : List Int} (h : kB.C w A n zs) (X : World) (hb : Below w.heap.size w X) : (convert 34 9 (.slice A n c)).run Tryd.prog X = .ok (.string (strOfNums zs)) X :=
  Kd.C_string (P := Tryd.prog) Tryd.underlying34 Tryd.underlying5 Tryd.underlying9 (Kd.C_below h hb)
theorem str_pack {w : World} {A : Option Addr} {n c : Nat} (h : Rd w A [3, 253, 255, 1]) (hn : n = 4) : (convert 34 9 (.slice A n c)).run Tryd.prog w = .ok (.string ⟨#[3, 253, 255, 1]⟩) w := by
  subst hn
  rw [← show strOfNums [3, 253, 255, 1] = ⟨#[3, 253, 255, 1]⟩ by decide +kernel]
  exact str_at (Rd_C h) w (Below.refl _ _)
theorem str_get {w : World} {A : Option Addr} {n c : Nat} {l : List Int} (h : Rd w A l) (hn : n = l.length) (hl : l = [1, 0]) : (convert 34 9 (.slice A n c)).run Tryd.prog w = .ok (.string ⟨#[1, 0]⟩) w := by
  subst hn hl
  rw [← show strOfNums [1, 0] = ⟨#[1, 0]⟩ by decide +kernel]
  exact str_at (Rd_C h) w (Below.refl _ _)
set_option maxRecDepth 100000 in
set_option maxHeartbeats 4000000 in
theorem works_any (w : World) (ht : Tbl w) :
    Calls Tryd.prog 18 #[] w fun e w' => e = .returned (.bool true) ∧ Below w.heap.size w w' := by
  have HT := Aside0.mk ht
  clear ht
  go_enter Tryd.func18, Tryd.ntmps18
  go_wp2_with (first
    | (go_at_call 28; refine (three_any w).mono ?_; rintro e w1 ⟨g1, g2, rfl, hE, hM, hb⟩; have HE := Aside0.mk hE; have HM := Aside0.mk hM; have HB1 := Aside0.mk hb; clear hE hM hb)
    | (go_at_call 19; refine (new_any w.heap.size threeE _ _ w1 HE.out (fun e he => (threeE_ok e he).1) (HT.out.below HB1.out) HB1.out.size (by decide) _ new3).mono ?_; rintro e w2 ⟨hb2, gd, bi, bs, rfl, hg, hbi, hbs, hD⟩; have HB2 := Aside0.mk (HB1.out.trans (hb2.mono HB1.out.size)); have HM2 := Aside0.mk (HM.out.below hb2); have HD := Aside0.mk hD; have HG := Aside0.mk (And.intro hg hbi); clear hb2 hg hbi hbs hD)
    | (go_at_call 22; have hp := Num.pack_any w.heap.size _ (some d3) threeM _ 3 w2 ⟨gd, rfl, HD.out.dict⟩ (HT.out.below HB2.out) HM2.out (by decide) threeM_ok d3_good.find check3 val3; rw [size3, pack3] at hp; refine hp.mono ?_; clear hp; rintro e w3 ⟨gp, rfl, hgp, hrow, hb3⟩; have HB3 := Aside0.mk hb3; have hcv := str_pack (c := 4) (rowB_rd hrow (by decide)) rfl; clear hb3 hrow)
    | (go_at_call 24; have hal : Below w3.heap.size w3 (w3.alloc (.cells #[.int .u8 5, .int .u8 2, .int .u8 0, .int .u8 0] 5)) := below_alloc (Below.refl _ _) _; have HAL := Aside0.mk hal; have HB3' := Aside0.mk (HB2.out.trans ((HB3.out.trans (hal.mono HB3.out.size)).mono HB2.out.size)); have HB23 := Aside0.mk (HB3.out.trans (hal.mono HB3.out.size)); refine (mwrite_any w.heap.size gd bi bs d3 d3_good threeM _ 3 _ 4 [5, 2, 0, 0] _ (HD.out.below HB23.out) (TblB.below HT.out HB3'.out) (HM2.out.below HB23.out) (by decide) threeM_ok (arg_new (w := w3) [5, 2, 0, 0] (byt_of _ rfl) (by decide) rfl)).mono ?_; rw [unpack3]; rintro e w4 ⟨rfl, hd4, hf4⟩; have HD4 := Aside0.mk hd4; have HF4 := Aside0.mk hf4; have HB4 := Aside0.mk (HB3'.out.trans (hf4.below (fun jj hj => ⟨Nat.lt_of_lt_of_le hj HB3'.out.size, by have h1 := HG.out.1; have h2 := HG.out.2; have h3 := HB1.out.size; rintro (e | e) <;> omega⟩))); clear hal hd4 hf4)
    | (go_at_call 25; refine (get_any w.heap.size _ (some (writesC d3 vs3)) 24576 3 (by decide) (by decide) w4 ⟨gd, rfl, HD4.out.dict⟩).mono ?_; rintro e w5 ⟨v5, rfl, ⟨A5, c5, rfl, ha5, -⟩, hb5⟩; rw [find3.1]; have hcv5 := str_get (c := c5) ha5.rd rfl find3.2; have HB5 := Aside0.mk hb5; clear ha5 hb5))
  go_ret
  exact ⟨rfl, HB4.out.trans (HB5.out.mono HB4.out.size)⟩
end Go.Proofs.YtokebpeplopjhaaDoor.Mp
namespace Go.Proofs.YtokebpeplopjhaaDoor.Mp
open Go.RowKit Go.Shelf Go.Proofs.YtokebpeplopjhaaDoor.Rng Go.Proofs.YtokebpeplopjhaaDoorW.PrintWords Go.Proofs.YtokebpeplopjhaaDoorW.PrintMore Go.Proofs.YtokebpeplopjhaaDoorW.PrintLast Go.Proofs.YtokebpeplopjhaaDoor.Num

/-- Eleven cells, raw. -/
def kI : Kd (List Value) where
  sz := 11
  E := []
  K _ x cs := cs = x ∧ x.length = 11 ∧ ∀ u ∈ x, u.oneCell' = true
  M _ _ _ x cs := cs = x ∧ x.length = 11 ∧ ∀ u ∈ x, u.oneCell' = true
  K_len := fun h => h.1 ▸ h.2.1
  K_one := fun h => h.1 ▸ h.2.2
  K_below := fun _ h => h
  K_of_M := fun h => h
  M_mono := fun _ h => h
  M_bound := fun h => h
  M_move := fun _ h => h
  M_lower := fun _ h => h
theorem ArgN.argv {g : Nat} {w : World} {v : Value} {l : List Int} (h : ArgN g w v l) : ArgV w v l := by
  obtain ⟨A, c, e, q1, q2, _⟩ := h
  exact ⟨A, c, e, q1, q2⟩
theorem ArgN.below {g : Nat} {w w' : World} {v : Value} {l : List Int} (h : ArgN g w v l) (hb : Below w.heap.size w w') : ArgN g w' v l := by
  obtain ⟨A, c, e, q1, q2, ho⟩ := h
  exact ⟨A, c, e, q1.below hb, q2, ho⟩
theorem ArgN.set {g : Nat} {w w' : World} {v : Value} {l : List Int} (h : ArgN g w v l) (hf : Fr (fun k => k = g) w w') : ArgN g w' v l := by
  obtain ⟨A, c, e, q1, q2, ho⟩ := h
  exact ⟨A, c, e, ⟨q1.rd.fr hf ho, q1.byt, q1.le, q1.cap⟩, q2, ho⟩
theorem ArgV.toN {g : Nat} {w : World} {v : Value} {l : List Int} (h : ArgV w v l) (hg : w.heap.size ≤ g) : ArgN g w v l := by
  obtain ⟨A, c, e, q1, q2⟩ := h
  refine ⟨A, c, e, q1, q2, fun ad hA hn hk => ?_⟩
  obtain ⟨ad', hA', hc⟩ := q1.rd.2 hn
  rw [hA] at hA'
  injection hA' with hA'
  subst hA'
  have h0 := World.block_lt_of_cell? w _ (hc 0 hn)
  rw [show (ad.add 0).block = ad.block by unfold Addr.add; rw [if_pos rfl]] at h0
  have : ad.block = g := hk
  omega
theorem ArgN.fr {g : Nat} {M : Nat → Prop} {w W : World} {v : Value} {l : List Int} (h : ArgN g w v l) (hf : Fr M w W) (ho : ∀ k, v.ownBlock = some k → k < w.heap.size → ¬ M k) : ArgN g W v l := by
  obtain ⟨A, c, e, q1, q2, q3⟩ := h
  subst e
  refine ⟨A, c, rfl, ⟨q1.rd.fr hf fun ad hA hn hk => ?_, q1.byt, q1.le, q1.cap⟩, q2, q3⟩
  obtain ⟨ad', hA', hc⟩ := q1.rd.2 hn
  have h0 := World.block_lt_of_cell? w _ (hc 0 hn)
  rw [show (ad'.add 0).block = ad'.block by unfold Addr.add; rw [if_pos rfl]] at h0
  rw [hA'] at hA ho
  injection hA with hA
  subst hA
  exact ho _ rfl h0 hk
/-- Off two blocks, one of which is written. -/
theorem ArgN.two {g h : Nat} {w w' : World} {v : Value} {l : List Int} (a : ArgN h w v l) (b : ArgN g w v l) (hf : Fr (fun k => k = g) w w') : ArgN h w' v l := by
  obtain ⟨A, c, e, q1, q2, q3⟩ := a
  obtain ⟨A', c', e', q1', q2', q3'⟩ := b
  subst e
  injection e' with e1 e2 e3
  subst e1 e3
  exact ⟨A, c, rfl, ⟨q1.rd.fr hf q3', q1.byt, q1.le, q1.cap⟩, q2, q3⟩
/-- A row of a block that is none of these. -/
theorem argn_at {g : Nat} {w : World} {v : Value} {l : List Int} (h : ArgV w v l) (ho : ∀ k, v.ownBlock = some k → k < w.heap.size → k ≠ g) : ArgN g w v l := by
  obtain ⟨A, c, e, q1, q2⟩ := h
  refine ⟨A, c, e, q1, q2, fun ad hA hn hk => ?_⟩
  subst e
  obtain ⟨ad', hA', hc⟩ := q1.rd.2 hn
  have h0 := World.block_lt_of_cell? w _ (hc 0 hn)
  rw [show (ad'.add 0).block = ad'.block by unfold Addr.add; rw [if_pos rfl]] at h0
  rw [hA'] at hA ho
  injection hA with hA
  subst hA
  exact ho _ rfl h0 hk
theorem kI_fr {M : Nat → Prop} {w W : World} {ad : Addr} {n : Nat} {cs : List (List Value)} (h : kI.C w (some ad) n cs) (hf : Fr M w W) (hM : ¬ M ad.block) : kI.C W (some ad) n cs :=
  ⟨h.1, h.2.1, fun h0 => by
    obtain ⟨ad', e, hc⟩ := h.2.2 h0
    refine ⟨ad', e, fun j x hj => ?_⟩
    injection e with e
    subst e
    obtain ⟨c, h1, h2, h3⟩ := hc j x hj
    exact ⟨c, h1, h2, fun i u hu => hf.cell (h3 i u hu) (by rw [Go.Proofs.YtokebpeplopjhaaDoorW.PrintWords.add_block]; exact hM)⟩⟩
theorem packC_len (o : Option DD) (l : List Mp) : (packC o l).length = sizeC l := pkL_length _ _
theorem vals_two {o : Option DD} {l : List Mp} (hg : ∀ d, o = some d → Good d) (h : checkC o l true = 0) : (∀ m ∈ l, m.bits.toNat ≤ 8 * (valC o m).length) ∧ ∀ m ∈ l, Byt (valC o m) := by
  cases o with
  | none =>
    have hn : ∀ m ∈ l, False := by
      intro m hm
      rcases one_0 ((check_0 h).1 m hm) with ⟨_, e⟩ | ⟨_, e, _⟩
      · cases e
      · simp [findC] at e
    exact ⟨fun m hm => (hn m hm).elim, fun m hm => (hn m hm).elim⟩
  | some d =>
    refine ⟨vals_ok (hg d rfl) h, fun m hm => ?_⟩
    obtain ⟨x, _, he, _, hb, _⟩ := out_val (hg d rfl) ((check_0 h).1 m hm)
    unfold valC
    rw [he]
    exact hb
/-- Each byte that a block holds, in place, stays. -/
def Keep8 (w w' : World) : Prop := ∀ p y, w.cell? p = some (.int .u8 y) → w'.cell? p = some (.int .u8 y)
theorem Keep8.refl (w : World) : Keep8 w w := fun _ _ h => h
theorem Keep8.below {w w' : World} (h : Below w.heap.size w w') : Keep8 w w' := fun _ _ e => pw_cell_below h e
theorem Keep8.trans {a b c : World} (h : Keep8 a b) (k : Keep8 b c) : Keep8 a c := fun p y e => k p y (h p y e)
theorem ArgV.keep {w w' : World} {v : Value} {l : List Int} (h : ArgV w v l) (hk : Keep8 w w') : ArgV w' v l := by
  obtain ⟨A, c, e, q1, q2⟩ := h
  refine ⟨A, c, e, ⟨⟨q1.rd.1, fun hn => ?_⟩, q1.byt, q1.le, q1.cap⟩, q2⟩
  obtain ⟨ad, hA, hc⟩ := q1.rd.2 hn
  exact ⟨ad, hA, fun j hj => hk _ _ (hc j hj)⟩
theorem ArgN.keep {g : Nat} {w w' : World} {v : Value} {l : List Int} (h : ArgN g w v l) (hk : Keep8 w w') : ArgN g w' v l := by
  obtain ⟨A, c, e, q1, q2, q3⟩ := h
  obtain ⟨A', c', e', r1, _⟩ := ArgV.keep ⟨A, c, e, q1, q2⟩ hk
  subst e
  injection e' with e1 e2 e3
  subst e1 e3
  exact ⟨A, c, rfl, r1, q2, q3⟩
theorem ItV.keep {w w' : World} {v : Value} {x : It} (h : ItV w v x) (hk : Keep8 w w') : ItV w' v x := by
  obtain ⟨v1, v2, v3, v4, hv, h1, h2, h3, h4⟩ := h
  exact ⟨v1, v2, v3, v4, hv, h1.keep hk, h2.keep hk, h3.keep hk, h4.keep hk⟩
theorem DictB.kp {M : Nat → Prop} {B : Nat} {w w' : World} {g bi bs : Nat} {d : DD} (h : DictB B w g bi bs d) (hf : Fr M w w') (hk : Keep8 w w') (h1 : ¬ M g) (h2 : ¬ M bi) (h3 : ¬ M bs) : DictB B w' g bi bs d := by
  obtain ⟨n, m, fi, fs, h⟩ := h
  exact ⟨n, m, fi, fs, (hf.block g (blk_lt h.blk) h1).trans h.blk, h.base, h.items.block (hf.block bi h.items.lt h2), h.subs.block (hf.block bs h.subs.lt h3), h.no, fun i s x hi hs hx => by
    obtain ⟨v, e1, e2⟩ := h.yes i s x hi hs hx
    exact ⟨v, e1, e2.keep hk⟩, h.count⟩
end Go.Proofs.YtokebpeplopjhaaDoor.Mp
namespace Go.Proofs.YtokebpeplopjhaaDoor.Mp
open Go.RowKit Go.Shelf Go.Proofs.YtokebpeplopjhaaDoor.Rng Go.Proofs.YtokebpeplopjhaaDoorW.PrintWords Go.Proofs.YtokebpeplopjhaaDoorW.PrintMore Go.Proofs.YtokebpeplopjhaaDoorW.PrintLast

/-- A row of Maps off a block. -/
def MsN (g : Nat) (w : World) (v : Value) (l : List Mp) : Prop := ∃ A c, v = .slice A l.length c ∧ MsAt w A l ∧ ∀ ad, A = some ad → 0 < l.length → ad.block ≠ g
theorem MsN.below {g : Nat} {w w' : World} {v : Value} {l : List Mp} (h : MsN g w v l) (hb : Below w.heap.size w w') : MsN g w' v l := by
  obtain ⟨A, c, e, h1, h2⟩ := h
  exact ⟨A, c, e, h1.below hb, h2⟩
theorem MsN.set {g : Nat} {w w' : World} {v : Value} {l : List Mp} (h : MsN g w v l) (hf : Fr (fun k => k = g) w w') : MsN g w' v l := by
  obtain ⟨A, c, e, h1, h2⟩ := h
  refine ⟨A, c, e, fun j m hj => ?_, h2⟩
  obtain ⟨ad, hA, q1, q2, q3⟩ := h1 j m hj
  have hp : 0 < l.length := by have := (List.getElem?_eq_some_iff.1 hj).1; omega
  have hne := h2 ad hA hp
  have hbk : (ad.add (j * 3)).block = ad.block := Go.Proofs.YtokebpeplopjhaaDoorW.PrintWords.add_block _ _
  exact ⟨ad, hA, hf.cell q1 (by rw [hbk]; exact hne), hf.cell q2 (by show ¬ (ad.add (j * 3)).block = g; rw [hbk]; exact hne), hf.cell q3 (by show ¬ (ad.add (j * 3)).block = g; rw [hbk]; exact hne)⟩
theorem MsN.nil (g : Nat) (w : World) : MsN g w (.slice none 0 0) [] := ⟨none, 0, rfl, fun j m h => by simp at h, fun ad e => by cases e⟩
theorem ArgN.nil (g : Nat) (w : World) : ArgN g w (.slice none 0 0) [] := ⟨none, 0, rfl, ⟨Rd.none w, (by intro x hx; cases hx), Nat.le_refl _, (by omega)⟩, Nat.zero_le _, fun ad e => by cases e⟩
/-- A producer. -/
structure PrAt (w : World) (g : Nat) (vd : Value) (os : Nat → Ob) (vm vb : Nat → Value) (goes : Bool) (now : Int) : Prop where
  d0 : w.cell? ⟨g, 0, none⟩ = some vd
  ob : ∀ i, i < 8 → ∀ (j : Nat) u, ((os i).cells (vm i) (vb i))[j]? = some u → w.cell? ⟨g, 1 + i * 13 + j, none⟩ = some u
  gs : w.cell? ⟨g, 105, none⟩ = some (.bool goes)
  nw : w.cell? ⟨g, 106, none⟩ = some (.int .i64 now)
  fz : ∀ k, w.frozen? ⟨g, k, none⟩ = false
  ms : ∀ i, i < 8 → MsN g w (vm i) (os i).maps
  bs : ∀ i, i < 8 → ArgN g w (vb i) (os i).bts
theorem PrAt.lt {w : World} {g : Nat} {vd : Value} {os : Nat → Ob} {vm vb : Nat → Value} {goes : Bool} {now : Int} (h : PrAt w g vd os vm vb goes now) : g < w.heap.size := World.block_lt_of_cell? w _ h.d0
theorem PrAt.below {w w' : World} {g : Nat} {vd : Value} {os : Nat → Ob} {vm vb : Nat → Value} {goes : Bool} {now : Int} (h : PrAt w g vd os vm vb goes now) (hb : Below w.heap.size w w') : PrAt w' g vd os vm vb goes now :=
  ⟨pw_cell_below hb h.d0, fun i hi j u hu => pw_cell_below hb (h.ob i hi j u hu), pw_cell_below hb h.gs, pw_cell_below hb h.nw, fun k => (World.frozen?_of_block (hb.block g h.lt)).trans (h.fz k), fun i hi => (h.ms i hi).below hb, fun i hi => (h.bs i hi).below hb⟩
/-- One place of a row is another one. -/
def upd {α : Type} (f : Nat → α) (i : Nat) (x : α) : Nat → α := fun k => if k = i then x else f k
theorem upd_same {α : Type} (f : Nat → α) (i : Nat) (x : α) : upd f i x i = x := if_pos rfl
theorem upd_ne {α : Type} (f : Nat → α) {i k : Nat} (x : α) (h : k ≠ i) : upd f i x k = f k := if_neg h
/-- Some cells of an object are written. -/
theorem PrAt.store {w : World} {g : Nat} {vd : Value} {os : Nat → Ob} {vm vb : Nat → Value} {goes : Bool} {now : Int} (h : PrAt w g vd os vm vb goes now) {i t : Nat} (hi : i < 8) (vs : List Value) (ht : t + vs.length ≤ 13) (x' : Ob) (vm' vb' : Value)
    (hc : ∀ (j : Nat) u, (x'.cells vm' vb')[j]? = some u → (t ≤ j ∧ j < t + vs.length ∧ vs[j - t]? = some u) ∨ ((j < t ∨ t + vs.length ≤ j) ∧ ((os i).cells (vm i) (vb i))[j]? = some u)) (hm : MsN g w vm' x'.maps) (hb : ArgN g w vb' x'.bts) :
    PrAt (w.setCells g (1 + i * 13 + t) vs) g vd (upd os i x') (upd vm i vm') (upd vb i vb') goes now := by
  have hf : Fr (fun k => k = g) w (w.setCells g (1 + i * 13 + t) vs) := fr_cells vs _ w
  have hsome : ∀ j, j < vs.length → (w.cell? ⟨g, 1 + i * 13 + t + j, none⟩).isSome = true := by
    intro j hj
    have hl : ((os i).cells (vm i) (vb i)).length = 13 := rfl
    rw [show 1 + i * 13 + t + j = 1 + i * 13 + (t + j) by omega, h.ob i hi (t + j) _ (List.getElem?_eq_getElem (by rw [hl]; omega))]
    rfl
  have out : ∀ k, (k < 1 + i * 13 + t ∨ 1 + i * 13 + t + vs.length ≤ k) → (w.setCells g (1 + i * 13 + t) vs).cell? ⟨g, k, none⟩ = w.cell? ⟨g, k, none⟩ := fun k hk => World.cell?_setCells_out g vs _ w _ (fun _ _ => hk)
  refine ⟨(out 0 (by omega)).trans h.d0, fun k hk j u hu => ?_, (out 105 (by omega)).trans h.gs, (out 106 (by omega)).trans h.nw, fun k => (World.frozen?_setCells g vs _ w _).trans (h.fz k), fun k hk => ?_, fun k hk => ?_⟩
  · by_cases e : k = i
    · subst e
      rw [upd_same, upd_same, upd_same] at hu
      have hj : j < 13 := (List.getElem?_eq_some_iff.1 hu).1
      rcases hc j u hu with ⟨h1, h2, h3⟩ | ⟨h1, h2⟩
      · obtain ⟨h4, h5⟩ := List.getElem?_eq_some_iff.1 h3
        have := World.cell?_setCells_in g vs (1 + k * 13 + t) w hsome (j - t) h4
        rw [h5] at this
        rw [show 1 + k * 13 + j = 1 + k * 13 + t + (j - t) by omega]
        exact this
      · exact (out _ (by omega)).trans (h.ob k hk j u h2)
    · rw [upd_ne _ _ e, upd_ne _ _ e, upd_ne _ _ e] at hu
      have hj : j < 13 := (List.getElem?_eq_some_iff.1 hu).1
      exact (out _ (by omega)).trans (h.ob k hk j u hu)
  · by_cases e : k = i
    · subst e
      rw [upd_same, upd_same]
      exact hm.set hf
    · rw [upd_ne _ _ e, upd_ne _ _ e]
      exact (h.ms k hk).set hf
  · by_cases e : k = i
    · subst e
      rw [upd_same, upd_same]
      exact hb.set hf
    · rw [upd_ne _ _ e, upd_ne _ _ e]
      exact (h.bs k hk).set hf
theorem PrAt.setGoes {w : World} {g : Nat} {vd : Value} {os : Nat → Ob} {vm vb : Nat → Value} {goes : Bool} {now : Int} (h : PrAt w g vd os vm vb goes now) (b : Bool) : PrAt (w.setCell ⟨g, 105, none⟩ (.bool b)) g vd os vm vb b now := by
  have hf : Fr (fun k => k = g) w (w.setCell ⟨g, 105, none⟩ (.bool b)) := Fr.setCell (M := fun k => k = g) w ⟨g, 105, none⟩ _ (.inl rfl)
  have out : ∀ k, k ≠ 105 → (w.setCell ⟨g, 105, none⟩ (.bool b)).cell? ⟨g, k, none⟩ = w.cell? ⟨g, k, none⟩ := fun k hk => World.cell?_setCell_other _ _ _ _ (by intro e; injection e with _ e _; exact hk (Eq.symm e))
  exact ⟨(out 0 (by omega)).trans h.d0, fun i hi j u hu => (out _ (by have hj : j < 13 := (List.getElem?_eq_some_iff.1 hu).1; omega)).trans (h.ob i hi j u hu), World.cell?_setCell_same _ _ _ h.gs, (out 106 (by omega)).trans h.nw, fun k => (World.frozen?_setCell ..).trans (h.fz k), fun i hi => (h.ms i hi).set hf, fun i hi => (h.bs i hi).set hf⟩
theorem PrAt.setNow {w : World} {g : Nat} {vd : Value} {os : Nat → Ob} {vm vb : Nat → Value} {goes : Bool} {now : Int} (h : PrAt w g vd os vm vb goes now) (n : Int) : PrAt (w.setCell ⟨g, 106, none⟩ (.int .i64 n)) g vd os vm vb goes n := by
  have hf : Fr (fun k => k = g) w (w.setCell ⟨g, 106, none⟩ (.int .i64 n)) := Fr.setCell (M := fun k => k = g) w ⟨g, 106, none⟩ _ (.inl rfl)
  have out : ∀ k, k ≠ 106 → (w.setCell ⟨g, 106, none⟩ (.int .i64 n)).cell? ⟨g, k, none⟩ = w.cell? ⟨g, k, none⟩ := fun k hk => World.cell?_setCell_other _ _ _ _ (by intro e; injection e with _ e _; exact hk (Eq.symm e))
  exact ⟨(out 0 (by omega)).trans h.d0, fun i hi j u hu => (out _ (by have hj : j < 13 := (List.getElem?_eq_some_iff.1 hu).1; omega)).trans (h.ob i hi j u hu), (out 105 (by omega)).trans h.gs, World.cell?_setCell_same _ _ _ h.nw, fun k => (World.frozen?_setCell ..).trans (h.fz k), fun i hi => (h.ms i hi).set hf, fun i hi => (h.bs i hi).set hf⟩
end Go.Proofs.YtokebpeplopjhaaDoor.Mp
namespace Go.Proofs.YtokebpeplopjhaaDoor.Mp
open Go.RowKit Go.Shelf Go.Proofs.YtokebpeplopjhaaDoor.Rng Go.Proofs.YtokebpeplopjhaaDoorW.PrintWords Go.Proofs.YtokebpeplopjhaaDoorW.PrintMore Go.Proofs.YtokebpeplopjhaaDoorW.PrintLast

/-- Maps as a kind of elements. -/
abbrev kP : Kd ((Int × Int) × Int) := Kd.pair (Kd.pair (Kd.int .u16) (Kd.int .u8)) (Kd.int .i64)
def mpP (m : Mp) : (Int × Int) × Int := ((m.ix, m.sub), m.bits)
theorem info_mpP : (Tryd.prog.info? 48).map (fun i => (i.zero, i.size, i.bytes)) = some (some (.agg #[.int .u16 0, .int .u8 0, .int .i64 0]), 3, 16) := by kernel_rfl
theorem msP_rows {w w0 : World} {A : Option Addr} {l : List Mp} (h : MsAt w A l) (hl : l.length ≤ 9223372036854775807) : ReadsRow (fun x cs => kP.K w0 x cs) 3 w A l.length (l.map mpP) := by
  refine ⟨by simp, hl, fun h0 => ?_⟩
  obtain ⟨ad, rfl, -⟩ := h 0 _ (List.getElem?_eq_getElem h0)
  refine ⟨ad, rfl, fun j p hj => ?_⟩
  obtain ⟨m, hm, rfl⟩ := List.getElem?_map (f := mpP) ▸ hj |> Option.map_eq_some_iff.1
  obtain ⟨ad2, e, y0, y1, y2⟩ := h j m hm
  injection e with e
  subst e
  refine ⟨[.int .u16 m.ix, .int .u8 m.sub, .int .i64 m.bits], rfl, ⟨[.int .u16 m.ix, .int .u8 m.sub], [.int .i64 m.bits], rfl, ⟨[.int .u16 m.ix], [.int .u8 m.sub], rfl, rfl, rfl⟩, rfl⟩, fun i u hu => ?_⟩
  match i, hu with
  | 0, hu => injection hu with hu; subst hu; exact y0
  | 1, hu => injection hu with hu; subst hu; rw [add_field _ _ 1 (by omega)]; exact y1
  | 2, hu => injection hu with hu; subst hu; rw [add_field _ _ 2 (by omega)]; exact y2
theorem msP_of_C {w : World} {A : Option Addr} {l : List Mp} (h : kP.C w A l.length (l.map mpP)) : MsAt w A l := by
  intro j m hj
  have hjl : j < l.length := (List.getElem?_eq_some_iff.1 hj).1
  obtain ⟨ad, hA, hc⟩ := h.2.2 (by omega)
  obtain ⟨c, hcl, hK, hcell⟩ := hc j (mpP m) (by simp [hj])
  obtain ⟨_, _, rfl, ⟨_, _, rfl, rfl, rfl⟩, rfl⟩ := hK
  refine ⟨ad, hA, hcell 0 _ rfl, ?_, ?_⟩
  · rw [← add_field _ _ 1 (by omega)]
    exact hcell 1 _ rfl
  · rw [← add_field _ _ 2 (by omega)]
    exact hcell 2 _ rfl
theorem R_zeroP (W : World) (base : Nat) (hb : base ≤ W.heap.size) : Kd.R kP 48 (W.alloc (.cells #[] 48)) base (fun k => base ≤ k) (.slice (some ⟨W.heap.size, 0, none⟩) 0 0) [] := by
  refine ⟨fun k hk => ?_, [], ?_, ⟨rfl, fun j p hj => by simp at hj⟩⟩
  · simp [Value.ownBlock] at hk
    omega
  · have h2 := World.ownsRow_lit (base := base) (e := 48) (size := 3) W #[] 0 hb (by simp [maxLen]) (by simp)
    exact h2
/-- A row of Maps in blocks from a number on. -/
def MsF (B : Nat) (w : World) (v : Value) (l : List Mp) : Prop := ∃ A c, v = .slice A l.length c ∧ MsAt w A l ∧ ∀ ad, A = some ad → B ≤ ad.block
theorem MsF.msN {B g : Nat} {w : World} {v : Value} {l : List Mp} (h : MsF B w v l) (hg : g < B) : MsN g w v l := by
  obtain ⟨A, c, e, h1, h2⟩ := h
  exact ⟨A, c, e, h1, fun ad hA _ he => by have := h2 ad hA; omega⟩
set_option maxRecDepth 100000 in
set_option maxHeartbeats 1000000 in
theorem mclone_any (A : Option Addr) (c : Nat) (l : List Mp) (w : World) (hm : MsAt w A l) (hl : l.length ≤ 1000000) :
    Calls Tryd.prog 90 #[.slice A l.length c] w fun e w' => ∃ v, e = .returned v ∧ MsF w.heap.size w' v l ∧ Below w.heap.size w w' := by
  have hn := Lib.run_eql_slice_nil (P := Tryd.prog)
  cases A with
  | none =>
    obtain rfl : l = [] := by
      cases l with
      | nil => rfl
      | cons m r => obtain ⟨ad, e, -⟩ := hm 0 m rfl; cases e
    go_enter Tryd.func90, Tryd.ntmps90
    go_wp2
    go_ret
    exact ⟨_, rfl, ⟨none, 0, rfl, (fun j m h => by simp at h), (fun ad e => by cases e)⟩, Below.refl _ _⟩
  | some ad =>
    have HM := Aside0.mk hm
    obtain ⟨n, hnl⟩ : ∃ n, l.length = n := ⟨_, rfl⟩
    have HN := Aside0.mk hnl
    rw [hnl] at hl ⊢
    clear hm hnl
    go_enter Tryd.func90, Tryd.ntmps90
    go_wp2_with ((with_reducible refine gate_dst (N := 7) rfl ?_); go_loud (refine Kd.R_append_rows kP (Rr := fun x cs => kP.K w x cs) (w0 := w) w.heap.size rfl _ _ 23 48 (.agg #[.int .u16 0, .int .u8 0, .int .i64 0]) 16 rfl Tryd.underlying23 info_mpP rfl (by decide) (by decide) _ [] (l.map mpP) (some ad) n c (fun k => w.heap.size ≤ k) (fun _ => False) rfl rfl (R_zeroP w _ (Nat.le_refl _)) (HN.out ▸ msP_rows (HM.out.below (below_alloc (Below.refl _ _) _)) (by have := HN.out; omega)) (fun x cs hx => by obtain ⟨_, _, rfl, ⟨_, _, rfl, rfl, rfl⟩, rfl⟩ := hx; exact ⟨_, _, rfl, ⟨_, _, rfl, rfl, rfl⟩, rfl⟩) (fun k hk => hk.elim) (fun k hk => by simp at hk; omega) (below_alloc (Below.refl _ _) _) (by simp) (by simp; omega) ?_; intro v1 w1 hown hb hg hat; have HO := Aside0.mk hown; have HB := Aside0.mk hb; clear hown hb hg hat))
    go_ret
    have hown := HO.out
    obtain ⟨A1, c1, rfl, -, hC⟩ := Kd.R_reads hown
    rw [List.nil_append, List.length_map] at hC ⊢
    refine ⟨_, rfl, ⟨A1, c1, rfl, msP_of_C hC, fun ad1 e => ?_⟩, HB.out⟩
    subst e
    exact hown.1 ad1.block rfl
end Go.Proofs.YtokebpeplopjhaaDoor.Mp
namespace Go.Proofs.YtokebpeplopjhaaDoor.Mp
open Go.RowKit Go.Shelf Go.Proofs.YtokebpeplopjhaaDoor.Rng Go.Proofs.YtokebpeplopjhaaDoorW.PrintWords Go.Proofs.YtokebpeplopjhaaDoorW.PrintMore Go.Proofs.YtokebpeplopjhaaDoorW.PrintLast

set_option maxRecDepth 100000 in
set_option maxHeartbeats 1000000 in
theorem pbegin_any (x : Ob) (vm vb : Value) (g o : Nat) (now : Int) (w : World) (h : ∀ (j : Nat) u, (x.cells vm vb)[j]? = some u → w.cell? ⟨g, o + j, none⟩ = some u) (hf : ∀ k, w.frozen? ⟨g, k, none⟩ = false) :
    Calls Tryd.prog 91 #[.pointer (some ⟨g, o, none⟩), .int .i64 now] w fun e w' => e = .returned (.tuple #[]) ∧ w' = w.setCells g (o + 7) [.bool false, .slice none 0 0, .int .i64 now, .bool false, .int .i64 0, .bool (x.cm.st == 0)] := by
  have y5 := h 5 _ rfl
  have y7 := h 7 _ rfl
  have y8 := h 8 _ rfl
  have y9 := h 9 _ rfl
  have y10 := h 10 _ rfl
  have y11 := h 11 _ rfl
  have y12 := h 12 _ rfl
  have f7 := hf (o + 7)
  have f8 := hf (o + 8)
  have f9 := hf (o + 9)
  have f10 := hf (o + 10)
  have f11 := hf (o + 11)
  have f12 := hf (o + 12)
  clear h hf
  go_enter Tryd.func91, Tryd.ntmps91
  go_wp2
  go_end0
  exact ⟨rfl, rfl⟩
set_option maxRecDepth 100000 in
theorem zero_pr : ∀ i, i < 8 → (Tryd.zeroCells158.toList.drop (1 + i * 13)).take 13 = zOb.cells (.slice none 0 0) (.slice none 0 0)
  | 0, _ => by kernel_rfl
  | 1, _ => by kernel_rfl
  | 2, _ => by kernel_rfl
  | 3, _ => by kernel_rfl
  | 4, _ => by kernel_rfl
  | 5, _ => by kernel_rfl
  | 6, _ => by kernel_rfl
  | 7, _ => by kernel_rfl
  | n + 8, h => by omega
theorem zero_goes : Tryd.zeroCells158[105]? = some (.bool false) := by kernel_rfl
theorem zero_now : Tryd.zeroCells158[106]? = some (.int .i64 0) := by kernel_rfl
theorem zero_size : Tryd.zeroCells158.size = 107 := by kernel_rfl
theorem pr_zero (w : World) (g : Nat) (v : Value) (h : w.heap[g]? = some (.cells (Tryd.zeroCells158.setIfInBounds 0 v) 158 (0, 0))) : PrAt w g v (fun _ => zOb) (fun _ => .slice none 0 0) (fun _ => .slice none 0 0) false 0 := by
  have hc := Go.Proofs.YtokebpeplopjhaaDoorW.PrintWords.blk_cell h
  refine ⟨?_, fun i hi j u hu => ?_, ?_, ?_, fun k => Go.Proofs.YtokebpeplopjhaaDoorW.PrintWords.blk_frozen h k, fun i hi => MsN.nil g w, fun i hi => ArgN.nil g w⟩
  · rw [hc 0, Array.getElem?_setIfInBounds_self_of_lt (by rw [zero_size]; omega)]
  · have hj : j < 13 := (List.getElem?_eq_some_iff.1 hu).1
    rw [hc (1 + i * 13 + j), Array.getElem?_setIfInBounds_ne (by omega)]
    rw [← zero_pr i hi, List.getElem?_take, if_pos hj, List.getElem?_drop] at hu
    rw [← Array.getElem?_toList]
    exact hu
  · rw [hc 105, Array.getElem?_setIfInBounds_ne (by omega)]
    exact zero_goes
  · rw [hc 106, Array.getElem?_setIfInBounds_ne (by omega)]
    exact zero_now
set_option maxRecDepth 100000 in
set_option maxHeartbeats 1000000 in
theorem pnew_any (gd : Nat) (w : World) : Calls Tryd.prog 63 #[.pointer (some ⟨gd, 0, none⟩)] w fun e w' => ∃ g, e = .returned (.pointer (some ⟨g, 0, none⟩)) ∧ w.heap.size ≤ g ∧ PrAt w' g (.pointer (some ⟨gd, 0, none⟩)) (fun _ => zOb) (fun _ => .slice none 0 0) (fun _ => .slice none 0 0) false 0 ∧ Below w.heap.size w w' := by
  go_enter Tryd.func63, Tryd.ntmps63
  go_wp2
  go_ret
  exact ⟨_, rfl, Nat.le_refl _, pr_zero _ _ _ (blk_new w _), below_alloc (Below.refl _ _) _⟩
theorem upd_id {α : Type} (f : Nat → α) (i : Nat) : upd f i (f i) = f := by
  funext k
  unfold upd
  split
  · rename_i e
    rw [e]
  · rfl
/-- An object has begun. -/
theorem PrAt.begin_ {w : World} {g : Nat} {vd : Value} {os : Nat → Ob} {vm vb : Nat → Value} {goes : Bool} {n0 : Int} (h : PrAt w g vd os vm vb goes n0) {i : Nat} (hi : i < 8) (now : Int) :
    PrAt (w.setCells g (1 + i * 13 + 7) [.bool false, .slice none 0 0, .int .i64 now, .bool false, .int .i64 0, .bool ((os i).cm.st == 0)]) g vd (upd os i ((os i).begin_ now)) vm (upd vb i (.slice none 0 0)) goes n0 := by
  have h1 := h.store hi (t := 7) [.bool false, .slice none 0 0, .int .i64 now, .bool false, .int .i64 0, .bool ((os i).cm.st == 0)] (Nat.le_refl _) ((os i).begin_ now) (vm i) (.slice none 0 0) (fun j u hu => ?_) (h.ms i hi) (ArgN.nil g w)
  · rw [upd_id] at h1
    exact h1
  · have hj : j < 13 := (List.getElem?_eq_some_iff.1 hu).1
    match j, hj, hu with
    | 0, _, hu => exact .inr ⟨.inl (by omega), hu⟩
    | 1, _, hu => exact .inr ⟨.inl (by omega), hu⟩
    | 2, _, hu => exact .inr ⟨.inl (by omega), hu⟩
    | 3, _, hu => exact .inr ⟨.inl (by omega), hu⟩
    | 4, _, hu => exact .inr ⟨.inl (by omega), hu⟩
    | 5, _, hu => exact .inr ⟨.inl (by omega), hu⟩
    | 6, _, hu => exact .inr ⟨.inl (by omega), hu⟩
    | 7, _, hu => exact .inl ⟨by omega, by simp, hu⟩
    | 8, _, hu => exact .inl ⟨by omega, by simp, hu⟩
    | 9, _, hu => exact .inl ⟨by omega, by simp, hu⟩
    | 10, _, hu => exact .inl ⟨by omega, by simp, hu⟩
    | 11, _, hu => exact .inl ⟨by omega, by simp, hu⟩
    | 12, _, hu => exact .inl ⟨by omega, by simp, hu⟩
set_option maxRecDepth 100000 in
set_option maxHeartbeats 2000000 in
theorem pstart_any (g : Nat) (vd : Value) (os : Nat → Ob) (vm vb : Nat → Value) (goes : Bool) (n0 now : Int) (w : World) (h : PrAt w g vd os vm vb goes n0) (hn : timeC now) :
    Calls Tryd.prog 43 #[.pointer (some ⟨g, 0, none⟩), .int .i64 now] w fun e w' => e = .returned (.tuple #[]) ∧ (∃ os' vb', (∀ i, i < 8 → os' i = (os i).begin_ now) ∧ PrAt w' g vd os' vm vb' true now) ∧ Fr (fun k => k = g) w w' := by
  have HP := Aside0.mk h
  have HT := Aside0.mk (decide_eq_true hn)
  have c5 := h.gs
  have c6 := h.nw
  have f5 := h.fz 105
  have f6 := h.fz 106
  clear h hn
  go_enter Tryd.func43, Tryd.ntmps43
  go_wp2_with (go_at_call 92; refine (ptime_any _ _).mono ?_; rw [HT.out]; rintro e w' ⟨rfl, hw⟩; have hw := hw.symm; subst hw)
  have HF0 := Aside0.mk (show Fr (fun k => k = g) w ((w.setCell ⟨g, 105, none⟩ (.bool true)).setCell ⟨g, 106, none⟩ (.int .i64 now)) from (Fr.setCell (M := fun k => k = g) w ⟨g, 105, none⟩ _ (.inl rfl)).trans (Fr.setCell (M := fun k => k = g) _ ⟨g, 106, none⟩ _ (.inl rfl)))
  have HP2 := Aside0.mk ((HP.out.setGoes true).setNow now)
  generalize (w.setCell ⟨g, 105, none⟩ (.bool true)).setCell ⟨g, 106, none⟩ (.int .i64 now) = w2 at HF0 HP2 ⊢
  clear c5 c6 f5 f6
  go_loopw [19] (fun iv wr => ∃ (i : Nat), i ≤ 8 ∧ iv = .int .i64 i ∧ Aside0 (∃ os' vb', (∀ k, os' k = if k < i then (os k).begin_ now else os k) ∧ PrAt wr g vd os' vm vb' true now) ∧ Aside0 (Fr (fun k => k = g) w wr)) (fun iv _ => 8 - (intOf iv).toNat)
  case atStart => exact ⟨0, by omega, rfl, ⟨os, vb, fun k => by simp, HP2.out⟩, HF0⟩
  case round =>
    obtain ⟨i, hi, rfl, HPR, HF⟩ := hrel
    obtain ⟨os', vb', hos, hpr⟩ := HPR.out
    by_cases hlt : i < 8
    · have hi1 : (i : Int) < 8 := by omega
      have hoi : os' i = os i := by rw [hos i, if_neg (Nat.lt_irrefl i)]
      have HBG := Aside0.mk (pbegin_any (os' i) (vm i) (vb' i) g (1 + i * 13) now wr (hpr.ob i hlt) hpr.fz)
      have HB2 := Aside0.mk (hpr.begin_ hlt now)
      have HOS := Aside0.mk hos
      have HOI := Aside0.mk hoi
      clear hpr hos hoi
      go_wp2_with (go_at_call 91; go_loud (refine HBG.out.mono ?_; rintro e w3 ⟨rfl, hw3⟩; have HW3 := Aside0.mk hw3; clear hw3))
      go_roundw
      case rel =>
        refine ⟨i + 1, by omega, by go_num, ⟨_, _, fun k => ?_, by rw [HW3.out]; exact HB2.out⟩, ⟨by rw [HW3.out]; exact HF.out.trans (fr_cells _ _ _)⟩⟩
        by_cases e : k = i
        · subst e
          rw [upd_same, if_pos (by omega), HOI.out]
        · rw [upd_ne _ _ e, HOS.out k]
          by_cases hk : k < i
          · rw [if_pos hk, if_pos (by omega)]
          · rw [if_neg hk, if_neg (by omega)]
      case measure => simp [intOf]; omega
    · obtain rfl : i = 8 := by omega
      go_wp2
      go_end0
      exact ⟨rfl, ⟨os', vb', fun k hk => by rw [hos k, if_pos hk], hpr⟩, HF.out⟩
end Go.Proofs.YtokebpeplopjhaaDoor.Mp
