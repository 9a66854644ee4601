/- MappingKnown, walked. -/
import Derived.Test.YtokebpeplopjhaaDoorY10
namespace Go.Proofs.YtokebpeplopjhaaDoor.Mp
open Go.RowKit Go.Shelf Go.Proofs.YtokebpeplopjhaaDoor.Rng Go.Proofs.YtokebpeplopjhaaDoorW.PrintWords Go.Proofs.YtokebpeplopjhaaDoorW.PrintMore Go.Proofs.YtokebpeplopjhaaDoorW.PrintLast

def mCells (l : List Mp) : List Value := l.flatMap fun m => [.int .u16 m.ix, .int .u8 m.sub, .int .i64 m.bits]
theorem mCells_get : ∀ (l : List Mp) (j : Nat) (m : Mp), l[j]? = some m → (mCells l)[j * 3]? = some (.int .u16 m.ix) ∧ (mCells l)[j * 3 + 1]? = some (.int .u8 m.sub) ∧ (mCells l)[j * 3 + 2]? = some (.int .i64 m.bits)
  | [], j, m, h => by simp at h
  | x :: r, 0, m, h => by
    simp only [List.getElem?_cons_zero, Option.some.injEq] at h
    subst h
    exact ⟨rfl, rfl, rfl⟩
  | x :: r, j + 1, m, h => by
    have ih := mCells_get r j m (by simpa using h)
    have e : mCells (x :: r) = .int .u16 x.ix :: .int .u8 x.sub :: .int .i64 x.bits :: mCells r := rfl
    rw [e, show (j + 1) * 3 = j * 3 + 1 + 1 + 1 by omega, show j * 3 + 1 + 1 + 1 + 1 = j * 3 + 1 + 1 + 1 + 1 from rfl]
    simpa using ih
theorem ms_blk {W : World} {k : Nat} {l : List Mp} (h : W.heap[k]? = some (.cells (mCells l).toArray 48 (0, 0))) : MsAt W (some ⟨k, 0, none⟩) l := by
  intro j m hj
  obtain ⟨h0, h1, h2⟩ := mCells_get l j m hj
  have e : ∀ i, (⟨k, 0, none⟩ : Addr).add i = ⟨k, i, none⟩ := fun i => add_plain _ _
  refine ⟨_, rfl, ?_, ?_, ?_⟩
  · rw [e, Go.Proofs.YtokebpeplopjhaaDoorW.PrintWords.blk_cell h]
    simpa using h0
  · rw [e, Go.Proofs.YtokebpeplopjhaaDoorW.PrintWords.blk_cell h]
    simpa using h1
  · rw [e, Go.Proofs.YtokebpeplopjhaaDoorW.PrintWords.blk_cell h]
    simpa using h2
theorem ms_new (X : World) (l : List Mp) (k : Nat) (hk : X.heap.size = k) : MsAt (X.alloc (.cells (mCells l).toArray 48)) (some ⟨k, 0, none⟩) l := by
  subst hk
  exact ms_blk (blk_new X _)
theorem MsAt.fr {M : Nat → Prop} {w w' : World} {g : Nat} {l : List Mp} (h : MsAt w (some ⟨g, 0, none⟩) l) (hf : Fr M w w') (hg : ¬ M g) : MsAt w' (some ⟨g, 0, none⟩) l := by
  intro j m hj
  obtain ⟨ad, e, h1, h2, h3⟩ := h j m hj
  injection e with e
  subst e
  have hb : (((⟨g, 0, none⟩ : Addr).add (j * 3))).block = g := by rw [add_plain]
  exact ⟨_, rfl, hf.cell h1 (by rw [hb]; exact hg), hf.cell h2 (by show ¬ M _; rw [hb]; exact hg), hf.cell h3 (by show ¬ M _; rw [hb]; exact hg)⟩
theorem MsAt.pre {w : World} {A : Option Addr} {l : List Mp} (h : MsAt w A l) (n : Nat) : MsAt w A (l.take n) := fun j m hj => h j m (by
  rw [List.getElem?_take] at hj
  split at hj
  · exact hj
  · cases hj)
theorem alloc_new (X : World) (o : Obj) (k : Nat) (h : X.heap.size = k) : (X.alloc o).heap[k]? = some o := h ▸ World.alloc_heap_new X o
theorem alloc_old (X : World) (o : Obj) (k : Nat) (q : Obj) (h : X.heap[k]? = some q) : (X.alloc o).heap[k]? = some q := (Below.heap_alloc X o k (Array.getElem?_eq_some_iff.1 h).1).trans h
theorem own_lt' {w : World} {e base : Nat} {ok : Nat → Prop} {v : Value} {xs : List ((Int × Int) × Int)} (h : Kd.R kM e w base ok v xs) (k : Nat) (hk : v.ownBlock = some k) : k < w.heap.size := ((Kd.R_bound h).1 k hk).2.2.1
theorem ms_nil (w : World) (A : Option Addr) : MsAt w A [] := fun j m hj => by simp at hj
theorem ms_of_R {w : World} {e base : Nat} {ok : Nat → Prop} {v : Value} {l : List Mp} (h : Kd.R kM e w base ok v (l.map mpT)) : ∃ A c, v = .slice A l.length c ∧ l.length ≤ c ∧ MsAt w A l := by
  obtain ⟨A, c, rfl, hl, hC⟩ := Kd.R_reads h
  rw [List.length_map] at hl hC ⊢
  exact ⟨A, c, rfl, hl, ms_of_C hC⟩
/-- The row alone. -/
theorem R_own {w : World} {e base : Nat} {ok : Nat → Prop} {v : Value} {xs : List ((Int × Int) × Int)} (h : Kd.R kM e w base ok v xs) : Kd.R kM e w base (fun k => v.ownBlock = some k) v xs :=
  ⟨fun k hk => hk, by
    obtain ⟨_, inner, ho, hr⟩ := h
    exact ⟨inner, ho, hr⟩⟩
def d4 : DD := writesC d3 vs3
theorem d4_good : Good d4 := good_writes d3_good (by
  intro x hx
  simp only [vs3, List.mem_cons, List.not_mem_nil, or_false] at hx
  rcases hx with rfl | rfl | rfl <;> exact ⟨by decide, by decide, byt_of _ rfl, by decide⟩)
theorem unpackA : unpackC (some d3) threeM [5, 2, 0] = ([], 0x06070010) := by decide +kernel
theorem unpackB : unpackC (some d3) threeM [5, 2, 0, 0, 9] = (vs3, 0) := by decide +kernel
theorem unpackN : unpackC (some d4) [] [] = ([], 0) := by decide +kernel
def nineM : List Mp := List.replicate 9 ⟨24576, 1, 8⟩
def manyM : List Mp := List.replicate 65 ⟨24576, 2, 1⟩
theorem pk64 : checkC (some d4) (manyM.take 64) true = 0 ∧ sizeC (manyM.take 64) = 8 := by decide +kernel
theorem pk0 : checkC (some d4) [] true = 0 ∧ sizeC [] = 0 := by decide +kernel
theorem take_1 (n k : Nat) (m : Mp) (h : k < n) : (List.replicate n m).take k ++ [m] = (List.replicate n m).take (k + 1) := by
  rw [List.take_replicate, List.take_replicate, Nat.min_eq_left (by omega), Nat.min_eq_left (by omega), ← List.replicate_succ']
theorem take9 (k : Nat) (h : k < 9) : (nineM.take (k + 1)).map mpT = (nineM.take k).map mpT ++ [mpT ⟨24576, 1, 8⟩] := by
  have h1 := take_1 9 k ⟨24576, 1, 8⟩ h
  unfold nineM
  rw [← h1, List.map_append]
  rfl
theorem take65 (k : Nat) (h : k < 65) : (manyM.take (k + 1)).map mpT = (manyM.take k).map mpT ++ [mpT ⟨24576, 2, 1⟩] := by
  have h1 := take_1 65 k ⟨24576, 2, 1⟩ h
  unfold manyM
  rw [← h1, List.map_append]
  rfl
theorem c1 : checkC (some d4) [⟨24576, 1, 7⟩] true = 100925505 := by decide +kernel
theorem c1_ok : ∀ m ∈ ([⟨24576, 1, 7⟩] : List Mp), m.Wf := by
  intro m hm
  simp only [List.mem_cons, List.not_mem_nil, or_false] at hm
  rcases hm with rfl <;> exact ⟨by decide, by decide, by decide⟩
theorem c2 : checkC (some d4) [⟨7, 0, 32⟩] true = 100925505 := by decide +kernel
theorem c2_ok : ∀ m ∈ ([⟨7, 0, 32⟩] : List Mp), m.Wf := by
  intro m hm
  simp only [List.mem_cons, List.not_mem_nil, or_false] at hm
  rcases hm with rfl <;> exact ⟨by decide, by decide, by decide⟩
theorem c3 : checkC (some d4) [⟨7, 0, 32⟩, ⟨7, 0, 32⟩] false = 0 := by decide +kernel
theorem c3_ok : ∀ m ∈ ([⟨7, 0, 32⟩, ⟨7, 0, 32⟩] : List Mp), m.Wf := by
  intro m hm
  simp only [List.mem_cons, List.not_mem_nil, or_false] at hm
  rcases hm with rfl | rfl <;> exact ⟨by decide, by decide, by decide⟩
theorem c4 : checkC (some d4) [⟨7, 0, 32⟩, ⟨7, 0, 32⟩, ⟨24576, 1, 8⟩] false = 100925506 := by decide +kernel
theorem c4_ok : ∀ m ∈ ([⟨7, 0, 32⟩, ⟨7, 0, 32⟩, ⟨24576, 1, 8⟩] : List Mp), m.Wf := by
  intro m hm
  simp only [List.mem_cons, List.not_mem_nil, or_false] at hm
  rcases hm with rfl | rfl | rfl <;> exact ⟨by decide, by decide, by decide⟩
theorem c5 : checkC none [⟨7, 0, 32⟩] false = 0 := by decide +kernel
theorem c5_ok : ∀ m ∈ ([⟨7, 0, 32⟩] : List Mp), m.Wf := by
  intro m hm
  simp only [List.mem_cons, List.not_mem_nil, or_false] at hm
  rcases hm with rfl <;> exact ⟨by decide, by decide, by decide⟩
theorem c6 : checkC none threeM false = 134217728 := by decide +kernel
theorem c6_ok : ∀ m ∈ (threeM : List Mp), m.Wf := by
  intro m hm
  exact threeM_ok m hm
theorem c7 : checkC (some d4) [⟨24576, 9, 8⟩] true = 101253137 := by decide +kernel
theorem c7_ok : ∀ m ∈ ([⟨24576, 9, 8⟩] : List Mp), m.Wf := by
  intro m hm
  simp only [List.mem_cons, List.not_mem_nil, or_false] at hm
  rcases hm with rfl <;> exact ⟨by decide, by decide, by decide⟩
theorem c8 : checkC (some d4) [⟨1, 1, 8⟩] false = 100794368 := by decide +kernel
theorem c8_ok : ∀ m ∈ ([⟨1, 1, 8⟩] : List Mp), m.Wf := by
  intro m hm
  simp only [List.mem_cons, List.not_mem_nil, or_false] at hm
  rcases hm with rfl <;> exact ⟨by decide, by decide, by decide⟩
theorem c9 : checkC (some d4) nineM true = 100925506 := by decide +kernel
theorem c9_ok : ∀ m ∈ (nineM : List Mp), m.Wf := by
  intro m hm
  obtain rfl := List.eq_of_mem_replicate (hm)
  exact ⟨by decide, by decide, by decide⟩
theorem c10 : checkC (some d4) (nineM.take 8) true = 0 := by decide +kernel
theorem c10_ok : ∀ m ∈ ((nineM.take 8) : List Mp), m.Wf := by
  intro m hm
  obtain rfl := List.eq_of_mem_replicate (List.mem_of_mem_take hm)
  exact ⟨by decide, by decide, by decide⟩
theorem c11 : checkC (some d4) manyM true = 100925506 := by decide +kernel
theorem c11_ok : ∀ m ∈ (manyM : List Mp), m.Wf := by
  intro m hm
  obtain rfl := List.eq_of_mem_replicate (hm)
  exact ⟨by decide, by decide, by decide⟩
theorem c12 : checkC (some d4) (manyM.take 64) true = 0 := by decide +kernel
theorem c12_ok : ∀ m ∈ ((manyM.take 64) : List Mp), m.Wf := by
  intro m hm
  obtain rfl := List.eq_of_mem_replicate (List.mem_of_mem_take hm)
  exact ⟨by decide, by decide, by decide⟩
set_option maxRecDepth 100000 in
set_option maxHeartbeats 8000000 in
theorem known_all (w : World) (ht : Tbl w) :
    Calls Tryd.prog 6 #[] w fun e w' => e = .returned (.bool true) ∧ Below w.heap.size w w' := by
  have HT := Aside0.mk ht
  have HGA := Aside0.mk True.intro
  clear ht
  go_enter Tryd.func6, Tryd.ntmps6
  go_wp2_with (first
    | (go_at_call 28; refine (three_any w).mono ?_; rintro e w1 ⟨g1, g2, rfl, hE, hM, hb⟩; have HE := Aside0.mk hE; have HM := Aside0.mk hM; have HB1 := Aside0.mk hb; have HG2L := Aside0.mk (show g2 < w1.heap.size by obtain ⟨ad, e, h, -⟩ := hM 0 _ rfl; injection e with e; subst e; exact World.block_lt_of_cell? w1 _ h); clear hE hM hb)
    | (go_at_call 19; refine (new_any w.heap.size threeE _ _ w1 HE.out (fun e he => (threeE_ok e he).1) (HT.out.below HB1.out) HB1.out.size (by decide) _ new3).mono ?_; rintro e w2 ⟨hb2, gd, bi, bs, rfl, hg, hbi, hbs, hD⟩; have HB2 := Aside0.mk (HB1.out.trans (hb2.mono HB1.out.size)); have HM2 := Aside0.mk (HM.out.below hb2); have HD := Aside0.mk hD; have HG := Aside0.mk (And.intro hg hbi); clear hb2 hg hbi hbs hD)
    | (go_at_call 29; refine (of_any 1610613000 (by decide) w2).mono ?_; rintro e w3 ⟨rfl, hb3⟩; have HB3 := Aside0.mk (HB2.out.trans (hb3.mono HB2.out.size)); have HM3 := Aside0.mk (HM2.out.below hb3); have HD3 := Aside0.mk (HD.out.below hb3); have HFR := Aside0.mk (show ∀ W, Fr (fun k => k = gd ∨ k = bi) w3 W → Below w.heap.size w3 W from fun W hf => hf.below (fun jj hj => ⟨Nat.lt_of_lt_of_le hj HB3.out.size, by have h1 := HG.out.1; have h2 := HG.out.2; have h3 := HB1.out.size; rintro (e | e) <;> omega⟩)); clear hb3)
    | (have hgate := HGA.out; clear hgate; go_at_call 24; have hal : Below w3.heap.size w3 (w3.alloc (.cells #[.int .u8 5, .int .u8 2, .int .u8 0] 5)) := below_alloc (Below.refl _ _) _; refine (mwrite_any w.heap.size gd bi bs d3 d3_good threeM _ 3 _ 3 [5, 2, 0] _ (HD3.out.below hal) (TblB.below HT.out (HB3.out.trans (hal.mono HB3.out.size))) (HM3.out.below hal) (by decide) threeM_ok (arg_new (w := w3) [5, 2, 0] (byt_of _ rfl) (by decide) rfl)).mono ?_; rw [unpackA]; rintro e w4 ⟨rfl, hd4, hf4⟩; have HD4 := Aside0.mk (show DictB w.heap.size w4 gd bi bs d3 from hd4); have HF4 := Aside0.mk ((Fr.of_below (M := fun k => k = gd ∨ k = bi) hal).trans hf4); have HM4 := Aside0.mk (HM3.out.fr HF4.out (by have h1 := HG.out.1; have h2 := HG.out.2; have h3 := HG2L.out; rintro (e | e) <;> omega)); clear hal hd4 hf4 HGA)
    | (go_at_call 24; have hal : Below w4.heap.size w4 (w4.alloc (.cells #[.int .u8 5, .int .u8 2, .int .u8 0, .int .u8 0, .int .u8 9] 5)) := below_alloc (Below.refl _ _) _; refine (mwrite_any w.heap.size gd bi bs d3 d3_good threeM _ 3 _ 5 [5, 2, 0, 0, 9] _ (HD4.out.below hal) (TblB.below HT.out ((HB3.out.trans (HFR.out _ HF4.out)).trans (hal.mono (HB3.out.trans (HFR.out _ HF4.out)).size))) (HM4.out.below hal) (by decide) threeM_ok (arg_new (w := w4) [5, 2, 0, 0, 9] (byt_of _ rfl) (by decide) rfl)).mono ?_; rw [unpackB]; rintro e w5 ⟨rfl, hd5, hf5⟩; have HD5 := Aside0.mk (show DictB w.heap.size w5 gd bi bs d4 from hd5); have HF5 := Aside0.mk (HF4.out.trans ((Fr.of_below (M := fun k => k = gd ∨ k = bi) hal).trans hf5)); have HM5 := Aside0.mk (HM3.out.fr HF5.out (by have h1 := HG.out.1; have h2 := HG.out.2; have h3 := HG2L.out; rintro (e | e) <;> omega)); have HB5 := Aside0.mk (HB3.out.trans (HFR.out _ HF5.out)); have HCD := Aside0.mk fun (l : List Mp) (A : Option Addr) (c : Nat) (o : Bool) (W : World) (hW : Below w5.heap.size w5 W) (hm : MsAt W A l) (hl : l.length ≤ 1000) (hw : ∀ m ∈ l, m.Wf) (r : Int) (hr : checkC (some d4) l o = r) (n : Nat) (hn : l.length = n) => (show Calls Tryd.prog 21 #[.pointer (some ⟨gd, 0, none⟩), .slice A n c, .bool o] W (ChkOne W r) by subst hr hn; exact mcheck_any w.heap.size _ (some d4) l A c o W ⟨gd, rfl, (HD5.out.below hW).dict⟩ ((HT.out.below HB5.out).below hW) hm (by omega) hw d4_good.find); have HCN := Aside0.mk fun (l : List Mp) (A : Option Addr) (c : Nat) (o : Bool) (W : World) (hW : Below w5.heap.size w5 W) (hm : MsAt W A l) (hl : l.length ≤ 1000) (hw : ∀ m ∈ l, m.Wf) (r : Int) (hr : checkC none l o = r) (n : Nat) (hn : l.length = n) => (show Calls Tryd.prog 21 #[.pointer none, .slice A n c, .bool o] W (ChkOne W r) by subst hr hn; exact mcheck_any w.heap.size _ none l A c o W rfl ((HT.out.below HB5.out).below hW) hm (by omega) hw (fun _ _ => zEn_wf)); have HK1 := Aside0.mk True.intro; clear hal hd5 hf5)
    | (have hgate := HK1.out; clear hgate; go_at_call 21; refine (HCD.out [⟨24576, 1, 7⟩] (some ⟨w5.heap.size + 1 + 1, 0, none⟩) 1 true _ ((((Below.refl _ w5).alloc (Nat.le_refl _) _).alloc (by simp) _).alloc (by simp; omega) _) (ms_new _ [⟨24576, 1, 7⟩] _ (by simp)) (by decide) c1_ok _ c1 1 rfl).mono ?_; rintro e w6 ⟨rfl, hb⟩; have HP6 := Aside0.mk (Go.Proofs.YtokebpeplopjhaaDoorW.PrintWords.blk_below (alloc_old _ _ _ _ (alloc_old _ _ _ _ (alloc_new w5 (.cells #[.int .u16 24576, .int .u8 1] 33) _ rfl))) hb); have HQ6 := Aside0.mk (Go.Proofs.YtokebpeplopjhaaDoorW.PrintWords.blk_below (alloc_old _ _ _ _ (alloc_new (w5.alloc (.cells #[.int .u16 24576, .int .u8 1] 33)) (.cells #[.int .u16 7, .int .u8 0, .int .i64 32] 48) (w5.heap.size + 1) (by simp))) hb); have HC6 := Aside0.mk ((((Below.refl w5.heap.size w5).alloc (Nat.le_refl _) _).alloc (by simp) _).alloc (by simp; omega) _ |>.trans (hb.mono (by simp; omega))); have p60 := Go.Proofs.YtokebpeplopjhaaDoorW.PrintWords.blk_cell HP6.out 0; have p61 := Go.Proofs.YtokebpeplopjhaaDoorW.PrintWords.blk_cell HP6.out 1; obtain ⟨s60, s61, s62, -⟩ := held3 HQ6.out; have HK2 := Aside0.mk True.intro; clear hb HK1)
    | (have hgate := HK2.out; clear hgate; go_at_call 21; refine (HCD.out [⟨7, 0, 32⟩] (some ⟨w6.heap.size, 0, none⟩) 1 true _ (HC6.out.alloc HC6.out.size _) (ms_new _ [⟨7, 0, 32⟩] _ rfl) (by decide) c2_ok _ c2 1 rfl).mono ?_; rintro e w7 ⟨rfl, hb⟩; have HP7 := Aside0.mk (Go.Proofs.YtokebpeplopjhaaDoorW.PrintWords.blk_below (alloc_old _ _ _ _ HP6.out) hb); have HQ7 := Aside0.mk (Go.Proofs.YtokebpeplopjhaaDoorW.PrintWords.blk_below (alloc_old _ _ _ _ HQ6.out) hb); have HC7 := Aside0.mk ((HC6.out.alloc HC6.out.size _).trans (hb.mono (Nat.le_trans HC6.out.size (by simp)))); have p70 := Go.Proofs.YtokebpeplopjhaaDoorW.PrintWords.blk_cell HP7.out 0; have p71 := Go.Proofs.YtokebpeplopjhaaDoorW.PrintWords.blk_cell HP7.out 1; obtain ⟨s70, s71, s72, -⟩ := held3 HQ7.out; have HK3 := Aside0.mk True.intro; clear hb HK2)
    | (have hgate := HK3.out; clear hgate; go_at_call 21; refine (HCD.out [⟨7, 0, 32⟩, ⟨7, 0, 32⟩] (some ⟨w7.heap.size, 0, none⟩) 2 false _ (HC7.out.alloc HC7.out.size _) (ms_new _ [⟨7, 0, 32⟩, ⟨7, 0, 32⟩] _ rfl) (by decide) c3_ok _ c3 2 rfl).mono ?_; rintro e w8 ⟨rfl, hb⟩; have HP8 := Aside0.mk (Go.Proofs.YtokebpeplopjhaaDoorW.PrintWords.blk_below (alloc_old _ _ _ _ HP7.out) hb); have HQ8 := Aside0.mk (Go.Proofs.YtokebpeplopjhaaDoorW.PrintWords.blk_below (alloc_old _ _ _ _ HQ7.out) hb); have HC8 := Aside0.mk ((HC7.out.alloc HC7.out.size _).trans (hb.mono (Nat.le_trans HC7.out.size (by simp)))); have p80 := Go.Proofs.YtokebpeplopjhaaDoorW.PrintWords.blk_cell HP8.out 0; have p81 := Go.Proofs.YtokebpeplopjhaaDoorW.PrintWords.blk_cell HP8.out 1; obtain ⟨s80, s81, s82, -⟩ := held3 HQ8.out; have HK4 := Aside0.mk True.intro; clear hb HK3)
    | (have hgate := HK4.out; clear hgate; go_at_call 21; refine (HCD.out [⟨7, 0, 32⟩, ⟨7, 0, 32⟩, ⟨24576, 1, 8⟩] (some ⟨w8.heap.size, 0, none⟩) 3 false _ (HC8.out.alloc HC8.out.size _) (ms_new _ [⟨7, 0, 32⟩, ⟨7, 0, 32⟩, ⟨24576, 1, 8⟩] _ rfl) (by decide) c4_ok _ c4 3 rfl).mono ?_; rintro e w9 ⟨rfl, hb⟩; have HP9 := Aside0.mk (Go.Proofs.YtokebpeplopjhaaDoorW.PrintWords.blk_below (alloc_old _ _ _ _ HP8.out) hb); have HQ9 := Aside0.mk (Go.Proofs.YtokebpeplopjhaaDoorW.PrintWords.blk_below (alloc_old _ _ _ _ HQ8.out) hb); have HC9 := Aside0.mk ((HC8.out.alloc HC8.out.size _).trans (hb.mono (Nat.le_trans HC8.out.size (by simp)))); have p90 := Go.Proofs.YtokebpeplopjhaaDoorW.PrintWords.blk_cell HP9.out 0; have p91 := Go.Proofs.YtokebpeplopjhaaDoorW.PrintWords.blk_cell HP9.out 1; obtain ⟨s90, s91, s92, -⟩ := held3 HQ9.out; have HK5 := Aside0.mk True.intro; clear hb HK4)
    | (have hgate := HK5.out; clear hgate; go_at_call 21; refine (HCN.out [⟨7, 0, 32⟩] (some ⟨w9.heap.size, 0, none⟩) 1 false _ (HC9.out.alloc HC9.out.size _) (ms_new _ [⟨7, 0, 32⟩] _ rfl) (by decide) c5_ok _ c5 1 rfl).mono ?_; rintro e w10 ⟨rfl, hb⟩; have HP10 := Aside0.mk (Go.Proofs.YtokebpeplopjhaaDoorW.PrintWords.blk_below (alloc_old _ _ _ _ HP9.out) hb); have HQ10 := Aside0.mk (Go.Proofs.YtokebpeplopjhaaDoorW.PrintWords.blk_below (alloc_old _ _ _ _ HQ9.out) hb); have HC10 := Aside0.mk ((HC9.out.alloc HC9.out.size _).trans (hb.mono (Nat.le_trans HC9.out.size (by simp)))); have p100 := Go.Proofs.YtokebpeplopjhaaDoorW.PrintWords.blk_cell HP10.out 0; have p101 := Go.Proofs.YtokebpeplopjhaaDoorW.PrintWords.blk_cell HP10.out 1; obtain ⟨s100, s101, s102, -⟩ := held3 HQ10.out; have HK6 := Aside0.mk True.intro; clear hb HK5)
    | (have hgate := HK6.out; clear hgate; go_at_call 21; refine (HCN.out threeM (some ⟨g2, 0, none⟩) 3 false _ HC10.out (HM5.out.below HC10.out) (by decide) c6_ok _ c6 3 rfl).mono ?_; rintro e w11 ⟨rfl, hb⟩; have HP11 := Aside0.mk (Go.Proofs.YtokebpeplopjhaaDoorW.PrintWords.blk_below HP10.out hb); have HQ11 := Aside0.mk (Go.Proofs.YtokebpeplopjhaaDoorW.PrintWords.blk_below HQ10.out hb); have HC11 := Aside0.mk (HC10.out.trans (hb.mono HC10.out.size)); have p110 := Go.Proofs.YtokebpeplopjhaaDoorW.PrintWords.blk_cell HP11.out 0; have p111 := Go.Proofs.YtokebpeplopjhaaDoorW.PrintWords.blk_cell HP11.out 1; obtain ⟨s110, s111, s112, -⟩ := held3 HQ11.out; have HK7 := Aside0.mk True.intro; clear hb HK6)
    | (have hgate := HK7.out; clear hgate; go_at_call 21; refine (HCD.out [⟨24576, 9, 8⟩] (some ⟨w11.heap.size, 0, none⟩) 1 true _ (HC11.out.alloc HC11.out.size _) (ms_new _ [⟨24576, 9, 8⟩] _ rfl) (by decide) c7_ok _ c7 1 rfl).mono ?_; rintro e w12 ⟨rfl, hb⟩; have HP12 := Aside0.mk (Go.Proofs.YtokebpeplopjhaaDoorW.PrintWords.blk_below (alloc_old _ _ _ _ HP11.out) hb); have HQ12 := Aside0.mk (Go.Proofs.YtokebpeplopjhaaDoorW.PrintWords.blk_below (alloc_old _ _ _ _ HQ11.out) hb); have HC12 := Aside0.mk ((HC11.out.alloc HC11.out.size _).trans (hb.mono (Nat.le_trans HC11.out.size (by simp)))); have p120 := Go.Proofs.YtokebpeplopjhaaDoorW.PrintWords.blk_cell HP12.out 0; have p121 := Go.Proofs.YtokebpeplopjhaaDoorW.PrintWords.blk_cell HP12.out 1; obtain ⟨s120, s121, s122, -⟩ := held3 HQ12.out; have HK8 := Aside0.mk True.intro; clear hb HK7)
    | (have hgate := HK8.out; clear hgate; go_at_call 21; refine (HCD.out [⟨1, 1, 8⟩] (some ⟨w12.heap.size, 0, none⟩) 1 false _ (HC12.out.alloc HC12.out.size _) (ms_new _ [⟨1, 1, 8⟩] _ rfl) (by decide) c8_ok _ c8 1 rfl).mono ?_; rintro e w13 ⟨rfl, hb⟩; have HP13 := Aside0.mk (Go.Proofs.YtokebpeplopjhaaDoorW.PrintWords.blk_below (alloc_old _ _ _ _ HP12.out) hb); have HQ13 := Aside0.mk (Go.Proofs.YtokebpeplopjhaaDoorW.PrintWords.blk_below (alloc_old _ _ _ _ HQ12.out) hb); have HC13 := Aside0.mk ((HC12.out.alloc HC12.out.size _).trans (hb.mono (Nat.le_trans HC12.out.size (by simp)))); have p130 := Go.Proofs.YtokebpeplopjhaaDoorW.PrintWords.blk_cell HP13.out 0; have p131 := Go.Proofs.YtokebpeplopjhaaDoorW.PrintWords.blk_cell HP13.out 1; obtain ⟨s130, s131, s132, -⟩ := held3 HQ13.out; have HK9 := Aside0.mk True.intro; clear hb HK8))
  go_loopw [9, 10, 11] (fun v9 v10 iv wr => ∃ k : Nat, k ≤ 65 ∧ iv = .int .i64 k ∧ Aside0 (Kd.R kM 48 wr w13.heap.size (fun b => v9.ownBlock = some b) v9 ((nineM.take k).map mpT)) ∧ Aside0 (Kd.R kM 48 wr w13.heap.size (fun b => v10.ownBlock = some b) v10 ((manyM.take k).map mpT)) ∧ Aside0 (∀ b, v9.ownBlock = some b → v10.ownBlock ≠ some b) ∧ Aside0 (Below w13.heap.size w13 wr)) (fun _ _ iv _ => 65 - (intOf iv).toNat)
  case atStart => exact ⟨0, Nat.zero_le _, rfl, ⟨Kd.R_nil _ _ _ _ _⟩, ⟨Kd.R_nil _ _ _ _ _⟩, ⟨fun b h => by simp [Value.ownBlock] at h⟩, ⟨Below.refl _ _⟩⟩
  case round =>
    obtain ⟨k, hk, rfl, H9, H10, HNE, HB⟩ := hrel
    by_cases hlt : k < 65
    · have HPK := Aside0.mk (Go.Proofs.YtokebpeplopjhaaDoorW.PrintWords.blk_below HP13.out HB.out)
      have pk0 := Go.Proofs.YtokebpeplopjhaaDoorW.PrintWords.blk_cell HPK.out 0
      have pk1 := Go.Proofs.YtokebpeplopjhaaDoorW.PrintWords.blk_cell HPK.out 1
      have hln : ((nineM.take k).map mpT).length ≤ 9 := by simp [nineM]; omega
      have hlm : ((manyM.take k).map mpT).length ≤ 65 := by simp [manyM]; omega
      by_cases h9 : k < 9
      · go_wp2_with (first
          | ((with_reducible refine gate_builtin (b := .append) (xs := #[.tmp 111, .tmp 114]) rfl ?_); at_builtin; refine Kd.R_append kM (w0 := w13) w13.heap.size rfl (.tmp 111) (.tmp 114) 23 48 (.agg #[.int .u16 0, .int .u8 0, .int .i64 0]) 16 rfl Tryd.underlying23 info_mp rfl (by decide) (by decide) u9 ((nineM.take k).map mpT) (mpT ⟨24576, 1, 8⟩) [.int .u16 24576, .int .u8 1, .int .i64 8] (fun b => u9.ownBlock = some b ∨ wr.heap.size ≤ b) (fun _ => False) rfl rfl ⟨_, _, rfl, ⟨_, _, rfl, rfl, rfl⟩, rfl⟩ (fun _ h => h.elim) (fun _ h => .inr h) (Kd.R_mono H9.out (fun _ h => .inl h)) HB.out HB.out.size (by omega) ?_; intro v1 wA hown hb hg hat; have HBA := Aside0.mk hb; have H9A := Aside0.mk (R_own hown); have H10A := Aside0.mk (Kd.R_grown H10.out hg (fun b hb e => HNE.out b e.symm hb)); have HNA := Aside0.mk (show ∀ b, v1.ownBlock = some b → u10.ownBlock ≠ some b from fun b hb e => by rcases hat with h | ⟨b', h, h2⟩; exact HNE.out b (h ▸ hb) e; rw [h] at hb; injection hb with hb; subst hb; have := own_lt' H10.out _ e; omega); clear hown hb hg hat)
          | ((with_reducible refine gate_builtin (b := .append) (xs := #[.tmp 116, .tmp 119]) rfl ?_); at_builtin; refine Kd.R_append kM (w0 := w13) w13.heap.size rfl (.tmp 116) (.tmp 119) 23 48 (.agg #[.int .u16 0, .int .u8 0, .int .i64 0]) 16 rfl Tryd.underlying23 info_mp rfl (by decide) (by decide) u10 ((manyM.take k).map mpT) (mpT ⟨24576, 2, 1⟩) [.int .u16 24576, .int .u8 2, .int .i64 1] (fun b => u10.ownBlock = some b ∨ wA.heap.size ≤ b) (fun _ => False) rfl rfl ⟨_, _, rfl, ⟨_, _, rfl, rfl, rfl⟩, rfl⟩ (fun _ h => h.elim) (fun _ h => .inr h) (Kd.R_mono H10A.out (fun _ h => .inl h)) HBA.out HBA.out.size (by omega) ?_; intro v2 wB hown hb hg hat; have HBB := Aside0.mk hb; have H10B := Aside0.mk (R_own hown); have H9B := Aside0.mk (Kd.R_grown H9A.out hg (fun b hb e => HNA.out b hb e.symm)); have HNB := Aside0.mk (show ∀ b, v1.ownBlock = some b → v2.ownBlock ≠ some b from fun b hb e => by rcases hat with h | ⟨b', h, h2⟩; exact HNA.out b hb (h ▸ e); rw [h] at e; injection e with e; subst e; have := own_lt' H9A.out _ hb; omega); clear hown hb hg hat))
        go_roundw
        case rel => exact ⟨k + 1, by omega, by go_num, ⟨by rw [take9 k h9]; exact H9B.out⟩, ⟨by rw [take65 k hlt]; exact H10B.out⟩, HNB, HBB⟩
        case measure => simp [intOf]; omega
      · have e9 : nineM.take (k + 1) = nineM.take k := by rw [List.take_of_length_le (by simp [nineM]; omega), List.take_of_length_le (by simp [nineM]; omega)]
        go_wp2_with (first
          | ((with_reducible refine gate_builtin (b := .append) (xs := #[.tmp 116, .tmp 119]) rfl ?_); at_builtin; refine Kd.R_append kM (w0 := w13) w13.heap.size rfl (.tmp 116) (.tmp 119) 23 48 (.agg #[.int .u16 0, .int .u8 0, .int .i64 0]) 16 rfl Tryd.underlying23 info_mp rfl (by decide) (by decide) u10 ((manyM.take k).map mpT) (mpT ⟨24576, 2, 1⟩) [.int .u16 24576, .int .u8 2, .int .i64 1] (fun b => u10.ownBlock = some b ∨ wr.heap.size ≤ b) (fun _ => False) rfl rfl ⟨_, _, rfl, ⟨_, _, rfl, rfl, rfl⟩, rfl⟩ (fun _ h => h.elim) (fun _ h => .inr h) (Kd.R_mono H10.out (fun _ h => .inl h)) HB.out HB.out.size (by omega) ?_; intro v2 wB hown hb hg hat; have HBB := Aside0.mk hb; have H10B := Aside0.mk (R_own hown); have H9B := Aside0.mk (Kd.R_grown H9.out hg (fun b hb e => HNE.out b hb e.symm)); have HNB := Aside0.mk (show ∀ b, u9.ownBlock = some b → v2.ownBlock ≠ some b from fun b hb e => by rcases hat with h | ⟨b', h, h2⟩; exact HNE.out b hb (h ▸ e); rw [h] at e; injection e with e; subst e; have := own_lt' H9.out _ hb; omega); clear hown hb hg hat))
        go_roundw
        case rel => exact ⟨k + 1, by omega, by go_num, ⟨e9 ▸ H9B.out⟩, ⟨by rw [take65 k hlt]; exact H10B.out⟩, HNB, HBB⟩
        case measure => simp [intOf]; omega
    · obtain rfl : k = 65 := by omega
      have h9 := H9.out
      have h10 := H10.out
      rw [show nineM.take 65 = nineM from rfl] at h9
      rw [show manyM.take 65 = manyM from rfl] at h10
      obtain ⟨A9, k9, rfl, hc9, hm9⟩ := ms_of_R h9
      obtain ⟨A10, k10, rfl, hc10, hm10⟩ := ms_of_R h10
      have HM9 := Aside0.mk hm9
      have HM10 := Aside0.mk hm10
      rw [show nineM.length = 9 from rfl] at *
      rw [show manyM.length = 65 from rfl] at *
      have HX0 := Aside0.mk (HC13.out.trans (HB.out.mono HC13.out.size))
      have HY0 := Aside0.mk (Below.refl wr.heap.size wr)
      obtain ⟨w20, hw20⟩ : ∃ x, x = wr := ⟨_, rfl⟩
      have HT0 := Aside0.mk True.intro
      have hc9' : (8 : Int) ≤ (k9 : Int) := by omega
      have hc10' : (64 : Int) ≤ (k10 : Int) := by omega
      clear h9 h10 hm9 hm10 hw20
      go_wp2_with (first
        | (have hgate := HT0.out; clear hgate; go_at_call 21; refine (HCD.out nineM A9 k9 true _ (HX0.out.trans (HY0.out.mono HX0.out.size)) HM9.out (by decide) c9_ok _ c9 9 rfl).mono ?_; rintro e w21 ⟨rfl, hb⟩; have HY1 := Aside0.mk (HY0.out.trans (hb.mono HY0.out.size)); have HT1 := Aside0.mk True.intro; clear hb HT0)
        | (have hgate := HT1.out; clear hgate; go_at_call 21; refine (HCD.out (nineM.take 8) A9 k9 true _ (HX0.out.trans (HY1.out.mono HX0.out.size)) ((HM9.out.below HY1.out).pre 8) (by decide) c10_ok _ c10 8 rfl).mono ?_; rintro e w22 ⟨rfl, hb⟩; have HY2 := Aside0.mk (HY1.out.trans (hb.mono HY1.out.size)); have HT2 := Aside0.mk True.intro; clear hb HT1)
        | (have hgate := HT2.out; clear hgate; go_at_call 21; refine (HCD.out manyM A10 k10 true _ (HX0.out.trans (HY2.out.mono HX0.out.size)) (HM10.out.below HY2.out) (by decide) c11_ok _ c11 65 rfl).mono ?_; rintro e w23 ⟨rfl, hb⟩; have HY3 := Aside0.mk (HY2.out.trans (hb.mono HY2.out.size)); have HT3 := Aside0.mk True.intro; clear hb HT2)
        | (have hgate := HT3.out; clear hgate; go_at_call 21; refine (HCD.out (manyM.take 64) A10 k10 true _ (HX0.out.trans (HY3.out.mono HX0.out.size)) ((HM10.out.below HY3.out).pre 64) (by decide) c12_ok _ c12 64 rfl).mono ?_; rintro e w24 ⟨rfl, hb⟩; have HY4 := Aside0.mk (HY3.out.trans (hb.mono HY3.out.size)); have HT4 := Aside0.mk True.intro; clear hb HT3)
        | (have hgate := HT4.out; clear hgate; go_at_call 22; have hp := Num.pack_any w.heap.size (.pointer (some ⟨gd, 0, none⟩)) (some d4) (manyM.take 64) A10 k10 w24 ⟨gd, rfl, (HD5.out.below (HX0.out.trans (HY4.out.mono HX0.out.size))).dict⟩ ((HT.out.below HB5.out).below (HX0.out.trans (HY4.out.mono HX0.out.size))) ((HM10.out.below HY4.out).pre 64) (by decide) c12_ok d4_good.find pk64.1 (vals_ok d4_good pk64.1); rw [pk64.2] at hp; refine (show Calls Tryd.prog 22 #[.pointer (some ⟨gd, 0, none⟩), .slice A10 64 k10] w24 _ from hp).mono ?_; clear hp; rintro e w25 ⟨gp, rfl, -, -, hb⟩; have HY5 := Aside0.mk (HY4.out.trans (hb.mono HY4.out.size)); have HT5 := Aside0.mk True.intro; clear hb HT4)
        | (have hgate := HT5.out; clear hgate; go_at_call 22; have hp := Num.pack_any w.heap.size (.pointer (some ⟨gd, 0, none⟩)) (some d4) [] none 0 w25 ⟨gd, rfl, (HD5.out.below (HX0.out.trans (HY5.out.mono HX0.out.size))).dict⟩ ((HT.out.below HB5.out).below (HX0.out.trans (HY5.out.mono HX0.out.size))) (ms_nil _ _) (by decide) (by simp) d4_good.find pk0.1 (by simp); rw [pk0.2] at hp; refine (show Calls Tryd.prog 22 #[.pointer (some ⟨gd, 0, none⟩), .slice none 0 0] w25 _ from hp).mono ?_; clear hp; rintro e w26 ⟨gq, rfl, -, -, hb⟩; have HY6 := Aside0.mk (HY5.out.trans (hb.mono HY5.out.size)); clear hb HT5)
        | (go_at_call 24; have hp := mwrite_any w.heap.size gd bi bs d4 d4_good [] none 0 none 0 [] w26 (HD5.out.below (HX0.out.trans (HY6.out.mono HX0.out.size))) (TblB.below HT.out (HB5.out.trans ((HX0.out.trans (HY6.out.mono HX0.out.size)).mono HB5.out.size))) (ms_nil _ _) (by decide) (by simp) ⟨Rd.none w26, (by intro x hx; cases hx), Nat.le_refl _, by omega⟩; rw [unpackN] at hp; refine (show Calls Tryd.prog 24 #[.pointer (some ⟨gd, 0, none⟩), .slice none 0 0, .slice none 0 0] w26 _ from hp).mono ?_; clear hp; rintro e w27 ⟨rfl, -, hf⟩; have HZ := Aside0.mk (HB3.out.trans (HFR.out _ (HF5.out.trans ((Fr.of_below (HX0.out.trans (HY6.out.mono HX0.out.size))).trans hf)))); clear hf)
        | (go_at_call 18; refine (works_any _ (HT.out.below HZ.out)).mono ?_; rintro e w28 ⟨rfl, hb⟩; have HZZ := Aside0.mk (HZ.out.trans (hb.mono HZ.out.size)); clear hb))
      go_ret
      exact ⟨rfl, HZZ.out⟩
end Go.Proofs.YtokebpeplopjhaaDoor.Mp
