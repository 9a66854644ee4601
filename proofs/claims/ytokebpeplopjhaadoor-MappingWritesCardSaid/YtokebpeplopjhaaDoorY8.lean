/- mapping.Unpack's take, walked. mapping.Pack. The document's dictionary, walked: Get. The document's dictionary, walked: Find. The document's dictionary, walked: May. The document's check of one Map, walked. The document's Check of a mapping; Size; bit. -/
import Derived.Test.YtokebpeplopjhaaDoorY7
namespace Go.Proofs.YtokebpeplopjhaaDoor.Num
open Go.RowKit Go.Shelf Go.Proofs.YtokebpeplopjhaaDoor.Rng Go.Proofs.YtokebpeplopjhaaDoor.Mp
attribute [local go_sem] Oper.semAt_some

theorem byteP_low {t : List Int} (h : Bits t) : 0 ≤ byteP t (t.length / 8) ∧ byteP t (t.length / 8) < 2 ^ (t.length % 8) := by
  obtain ⟨q, r, hr, hp⟩ : ∃ q r, r < 8 ∧ t.length = 8 * q + r := ⟨t.length / 8, t.length % 8, Nat.mod_lt _ (by omega), by omega⟩
  have e1 : t.length / 8 = q := by omega
  have e2 : t.length % 8 = r := by omega
  rw [e1, e2]
  have z : ∀ j, r ≤ j → t[8 * q + j]?.getD 0 = 0 := fun j hj => by rw [List.getElem?_eq_none (by omega)]; rfl
  have b0 := bits_bnd h (8 * q)
  have b1 := bits_bnd h (8 * q + 1)
  have b2 := bits_bnd h (8 * q + 2)
  have b3 := bits_bnd h (8 * q + 3)
  have b4 := bits_bnd h (8 * q + 4)
  have b5 := bits_bnd h (8 * q + 5)
  have b6 := bits_bnd h (8 * q + 6)
  have z0 := z 0
  have z1 := z 1
  have z2 := z 2
  have z3 := z 3
  have z4 := z 4
  have z5 := z 5
  have z6 := z 6
  have z7 := z 7 (by omega)
  rw [Nat.add_zero] at z0
  unfold byteP
  clear z hp e1 e2
  match r, hr with
  | 0, _ => rw [z0 (by omega), z1 (by omega), z2 (by omega), z3 (by omega), z4 (by omega), z5 (by omega), z6 (by omega), z7]; decide
  | 1, _ => rw [z1 (by omega), z2 (by omega), z3 (by omega), z4 (by omega), z5 (by omega), z6 (by omega), z7]; omega
  | 2, _ => rw [z2 (by omega), z3 (by omega), z4 (by omega), z5 (by omega), z6 (by omega), z7]; omega
  | 3, _ => rw [z3 (by omega), z4 (by omega), z5 (by omega), z6 (by omega), z7]; omega
  | 4, _ => rw [z4 (by omega), z5 (by omega), z6 (by omega), z7]; omega
  | 5, _ => rw [z5 (by omega), z6 (by omega), z7]; omega
  | 6, _ => rw [z6 (by omega), z7]; omega
  | 7, _ => rw [z7]; omega
set_option maxRecDepth 100000 in
set_option maxHeartbeats 2000000 in
theorem take_any (Bb Ba cap : Nat) (A : Option Addr) (zs : List Int) (p n : Nat) (w : World) (hb : w.cell? ⟨Bb, 0, none⟩ = some (.slice A zs.length cap)) (ha : w.heap[Ba]? = some (.cells #[.int .i64 p] 3 (0, 0))) (hz : Rd w A zs) (hy : Byt zs) (hl : p + n ≤ 8 * zs.length) (hp : p + n ≤ 1000) :
    Calls Tryd.prog 79 #[.int .i64 n, .pointer (some ⟨Bb, 0, none⟩), .pointer (some ⟨Ba, 0, none⟩)] w fun e w' => ∃ g, e = .returned (.slice (some ⟨g, 0, none⟩) ((n + 7) / 8) ((n + 7) / 8)) ∧ w.heap.size ≤ g ∧ RowB w' g (pkL (bitsL zs p n) ((n + 7) / 8)) ∧ w'.heap[Ba]? = some (.cells #[.int .i64 ((p + n : Nat) : Int)] 3 (0, 0)) ∧ Fr (fun k => k = Ba) w w' := by
  refine (callsIn_wide (n := 3)).1 ?_
  refine callsIn_of_wp_marks Tryd.func79 rfl trivial ?_ rfl
  simp only [Tryd.ntmps79, List.size_toArray, List.length_cons, List.length_nil, Nat.reduceAdd, Nat.reduceSub, Array.replicate_succ, Array.replicate_zero, List.push_toArray, List.append_toArray, List.nil_append, List.cons_append]
  have Hz := Lib.hid hz
  have HO := Lib.hid hz.off
  have HY := Lib.hid hy
  have HL := Lib.hid hl
  have ha0 : w.cell? ⟨Ba, 0, none⟩ = some (.int .i64 p) := Num.blk_cell ha
  obtain ⟨m, hm⟩ : ∃ m, (n + 7) / 8 = m := ⟨_, rfl⟩
  have HMM := Lib.hid hm
  have hmi : ((n : Int) + 7) / 8 = (m : Int) := by omega
  have hmk := fun W => make_u8 m (by omega) W
  have HA := Lib.hid ha
  have HBB := Lib.hid hb
  rw [hm]
  clear hz hy hl hm ha
  have hb2 : ∀ o o', ((w.alloc o).alloc o').cell? ⟨Bb, 0, none⟩ = some (.slice A zs.length cap) := fun o o' => ((((Below.refl w.heap.size w).alloc (Nat.le_refl _) o).alloc (by simp) o').cell (World.block_lt_of_cell? w _ hb)).trans hb
  have ha2 : ∀ o o', ((w.alloc o).alloc o').cell? ⟨Ba, 0, none⟩ = some (.int .i64 p) := fun o o' => ((((Below.refl w.heap.size w).alloc (Nat.le_refl _) o).alloc (by simp) o').cell (World.block_lt_of_cell? w _ ha0)).trans ha0
  clear hb ha0
  gi_wp2_with (refine ⟨trivial, ?_⟩; gi_at_call 75; refine (callsIn_wide.2 (mbits _ _ _ _ _ _)).mono ?_; rintro e w' ⟨rfl, rfl⟩)
  clear hmk hb2 ha2
  obtain ⟨W0, hW0⟩ : ∃ W0, (((((w.alloc (.cells (mz m) 5)).alloc (.cells #[.slice (some ⟨w.heap.size, 0, none⟩) m m] 34)).alloc (.cells #[.slice A zs.length cap] 34)).alloc (.cells #[.int .i64 p] 3)).alloc (.cells #[.int .i64 n] 3)) = W0 := ⟨_, rfl⟩
  have hs0 : W0.heap.size = w.heap.size + 5 := by rw [← hW0]; simp
  have hf0 : Below w.heap.size w W0 := by rw [← hW0]; exact (((((Below.refl _ w).alloc (Nat.le_refl _) _).alloc (by simp) _).alloc (by simp; omega) _).alloc (by simp; omega) _).alloc (by simp; omega) _
  have hbl : ∀ (X : World) (o : Obj) (k : Nat) (q : Obj), X.heap[k]? = some q → (X.alloc o).heap[k]? = some q := fun X o k q h => (Below.heap_alloc X o k (Array.getElem?_eq_some_iff.1 h).1).trans h
  have hnew : ∀ (X : World) (o : Obj) (k : Nat), X.heap.size = k → (X.alloc o).heap[k]? = some o := fun X o k h => h ▸ World.alloc_heap_new X o
  have r0 : RowB W0 w.heap.size (pkL (bitsL zs p 0) m) := by
    rw [show bitsL zs p 0 = [] from rfl, pkL_nil, ← hW0]
    exact hbl _ _ _ _ (hbl _ _ _ _ (hbl _ _ _ _ (hbl _ _ _ _ (rowB_mz w m))))
  have b1 : W0.heap[w.heap.size + 1]? = some (.cells #[.slice (some ⟨w.heap.size, 0, none⟩) m m] 34 (0, 0)) := by rw [← hW0]; exact hbl _ _ _ _ (hbl _ _ _ _ (hbl _ _ _ _ (hnew _ _ _ (by simp))))
  have b2 : W0.heap[w.heap.size + 2]? = some (.cells #[.slice A zs.length cap] 34 (0, 0)) := by rw [← hW0]; exact hbl _ _ _ _ (hbl _ _ _ _ (hnew _ _ _ (by simp)))
  have b3 : W0.heap[w.heap.size + 3]? = some (.cells #[.int .i64 p] 3 (0, 0)) := by rw [← hW0]; exact hbl _ _ _ _ (hnew _ _ _ (by simp))
  have b4 : W0.heap[w.heap.size + 4]? = some (.cells #[.int .i64 n] 3 (0, 0)) := by rw [← hW0]; exact hnew _ _ _ (by simp)
  rw [hW0]
  have F0 := Lib.hid hf0
  have R0 := Lib.hid r0
  have B1 := Lib.hid b1
  have B2 := Lib.hid b2
  have B3 := Lib.hid b3
  have B4 := Lib.hid b4
  have S0 := Lib.hid hs0
  clear hf0 hs0 hbl hnew r0 b1 b2 b3 b4 hW0
  refine wp_range (gf := 114) (lb := #[.pointer (some ⟨w.heap.size + 4, 0, none⟩), .pointer (some ⟨w.heap.size + 3, 0, none⟩), .pointer (some ⟨w.heap.size + 2, 0, none⟩)]) rfl (enters_of Tryd.func114 (by kernel_rfl) rfl) n (bitsV zs p) (fun k => k = w.heap.size) (fun _ => False)
    ⟨by have := S0.out; omega, by have := S0.out; omega⟩ ⟨id, id⟩ (by rintro k x W rfl; rfl) ?_
    (fun k W => RowB W w.heap.size (pkL (bitsL zs p k) m) ∧ Fr (fun k => k = w.heap.size) W0 W) (fun _ _ _ => False) ?_ (fun _ _ _ _ h _ => h) ⟨R0.out, Fr.refl _ _⟩ ?_ ?_ (fun _ _ _ _ _ h => h.elim)
  · intro o
    have hs := S0.out
    have hfr : Fr (fun _ => False) W0 ((W0.alloc (.deferred (some []))).alloc o) := (Fr.alloc (fun _ => False) W0 _).trans (Fr.alloc _ _ _)
    refine bits_seq (w.heap.size + 4) (w.heap.size + 3) (w.heap.size + 2) cap A zs p n _ _ (hfr.cell (Num.blk_cell B4.out) id) (hfr.cell (Num.blk_cell B3.out) id) (hfr.cell (Num.blk_cell B2.out) id) (by omega) (by omega) (by omega) ((Hz.out.fr (Fr.of_below (M := fun _ => False) F0.out) (fun _ _ _ => id)).fr hfr (fun _ _ _ => id)) ?_ HY.out HL.out (by omega)
    intro ad e hn h
    have := HO.out ad e hn
    omega
  · rintro k X Y ⟨h1, h2⟩ hf
    have hs := S0.out
    exact ⟨(hf.block _ (Array.getElem?_eq_some_iff.1 h1).1 (by rintro (h | h | h) <;> omega)).trans h1, h2.then_ hf (fun i hi h => by rcases h with h | h | h; exact h.elim; exact absurd h (by omega); exact absurd h (by omega))⟩
  · intro l k args W hkl hk hsz hI
    obtain rfl := hk
    obtain ⟨hrow, hfr⟩ := hI
    obtain ⟨x, hx⟩ : ∃ x, bit zs (p + k) = x := ⟨_, rfl⟩
    have hx01 : x = 0 ∨ x = 1 := hx ▸ bit_01 _ _
    rw [hx]
    have HX := Lib.hid hx
    have HROW := Lib.hid hrow
    have HFR := Lib.hid hfr
    clear hx hrow hfr
    gi_wp2
    refine ⟨Fr.refl _ _, ?_⟩
    intro W2 hf2
    have hs := S0.out
    have hrow2 : RowB W2 w.heap.size (pkL (bitsL zs p k) m) := (hf2.block _ (Array.getElem?_eq_some_iff.1 HROW.out).1 (by omega)).trans HROW.out
    have hk8 : k / 8 < m := by have := HMM.out; omega
    obtain ⟨hc, hfz⟩ := hrow2.cell (k / 8) (by rw [pkL_length]; exact hk8)
    rw [pkL_get _ _ _ hk8] at hc
    have hlow := byteP_low (bits_bitsL zs p k)
    rw [bitsL_length] at hlow
    obtain ⟨cur, hcur⟩ : ∃ cur, byteP (bitsL zs p k) (k / 8) = cur := ⟨_, rfl⟩
    rw [hcur] at hc hlow
    have hcv : W2.cell? ⟨w.heap.size + 1, 0, none⟩ = some (.slice (some ⟨w.heap.size, 0, none⟩) m m) := hf2.cell (HFR.out.cell (Num.blk_cell B1.out) (fun e => absurd (show w.heap.size + 1 = w.heap.size from e) (by omega))) (fun e => absurd (show w.heap.size + 1 = W0.heap.size + 1 from e) (by omega))
    have hjoin := u8_join cur x (k % 8) (by omega) hlow hx01
    have HJ := Lib.hid hjoin
    have HC := Lib.hid hcur
    have HR2 := Lib.hid hrow2
    have HF2 := Lib.hid hf2
    clear hlow hjoin hcur hrow2 hf2
    gi_wp2
    have hS : (fun X : World => X.cell? ⟨w.heap.size + 1, 0, none⟩ = some (.slice (some ⟨w.heap.size, 0, none⟩) m m)) W2.drew := hcv
    refine region_in (S := fun X : World => X.cell? ⟨w.heap.size + 1, 0, none⟩ = some (.slice (some ⟨w.heap.size, 0, none⟩) m m)) (by kernel_rfl) (by kernel_rfl) (by rintro ⟨_, _, h⟩; exact h) ?_
    refine wpAnyH_take (i := 0) (v := .slice (some ⟨w.heap.size, 0, none⟩) m m) rfl (by kernel_rfl) (by kernel_rfl) (by kernel_rfl) (fun _ _ _ h => h) (.inl ⟨by simp [Region.wanted], fun X hX => ?_⟩) hS ?_
    · go_simp
    refine wpAnyH_take (i := 1) (v := .int .i64 k) rfl (by kernel_rfl) (by kernel_rfl) (by kernel_rfl) (fun _ _ _ h => h) (.inl ⟨by simp [Region.wanted], fun X hX => ?_⟩) hS ?_
    · go_simp
    refine wpAnyH_take (i := 2) (v := .int .i64 ((k : Int) / 8)) rfl (by kernel_rfl) (by kernel_rfl) (by kernel_rfl) (fun _ _ _ h => h) (.inl ⟨by simp [Region.wanted], fun X hX => ?_⟩) hS ?_
    · go_simp
      rw [IntKind.wrap_i64]
      omega
    refine wpAnyH_take (i := 3) (v := .pointer (some ⟨w.heap.size, k / 8, none⟩)) rfl (by kernel_rfl) (by kernel_rfl) (by kernel_rfl) (fun _ _ _ h => h) (.inl ⟨by simp [Region.wanted], fun X hX => ?_⟩) hS ?_
    · go_simp
      rw [if_pos ⟨by omega, by omega⟩, show ((k : Int) / 8).toNat = k / 8 by omega]
    refine wpAnyH_take (i := 5) (v := .int .u8 x) rfl (by kernel_rfl) (by kernel_rfl) (by kernel_rfl) (fun _ _ _ h => h) (.inl ⟨by simp [Region.wanted], fun X hX => ?_⟩) hS ?_
    · go_simp
    refine wpAnyH_take (i := 6) (v := .int .i64 k) rfl (by kernel_rfl) (by kernel_rfl) (by kernel_rfl) (fun _ _ _ h => h) (.inl ⟨by simp [Region.wanted], fun X hX => ?_⟩) hS ?_
    · go_simp
    refine wpAnyH_take (i := 7) (v := .int .i64 ((k : Int) % 8)) rfl (by kernel_rfl) (by kernel_rfl) (by kernel_rfl) (fun _ _ _ h => h) (.inl ⟨by simp [Region.wanted], fun X hX => ?_⟩) hS ?_
    · go_simp
      rw [Int.tmod_eq_emod_of_nonneg (by omega)]
    refine wpAnyH_take (i := 8) (v := .int .u8 (IntKind.u8.wrap (x * 2 ^ (k % 8)))) rfl (by kernel_rfl) (by kernel_rfl) (by kernel_rfl) (fun _ _ _ h => h) (.inl ⟨by simp [Region.wanted], fun X hX => ?_⟩) hS ?_
    · go_simp
      rw [show ((k : Int) % 8).toNat = k % 8 by omega]
    refine wpAnyH_ready (rs := [4]) (by kernel_rfl) (by simp) (AllReadyH.cons rfl (fun K hK => ?_) AllReadyH.nil)
    go_simp
    refine hK.out _ _ hS (fun _ => ?_)
    clear hK
    refine wpAnyH_take (i := 9) (v := .int .u8 (cur + x * 2 ^ (k % 8))) rfl (by kernel_rfl) (by kernel_rfl) (by kernel_rfl) (fun _ _ _ h => h) (.inl ⟨by simp [Region.wanted], fun X hX => ?_⟩) hS ?_
    · go_simp
      rw [HJ.out]
    refine wpAnyH_take (i := 10) (v := .pointer (some ⟨w.heap.size, k / 8, none⟩)) rfl (by kernel_rfl) (by kernel_rfl) (by kernel_rfl) (fun _ _ _ h => h) (.inl ⟨by simp [Region.wanted], fun X hX => ?_⟩) hS ?_
    · go_simp
      rw [if_pos ⟨by omega, by omega⟩, show ((k : Int) / 8).toNat = k / 8 by omega]
    refine wpAnyH_ready (rs := [11]) (by kernel_rfl) (by simp) (AllReadyH.cons rfl (fun K hK => ?_) AllReadyH.nil)
    go_simp
    refine hK.out _ _ ?_ (fun _ => ?_)
    · show (W2.setCell ⟨w.heap.size, k / 8, none⟩ _).cell? _ = _
      rw [World.cell?_setCell_other _ _ _ _ (by intro e; injection e with e1 _; omega)]
      exact hcv
    clear hK
    refine wpAnyH_done (by kernel_rfl) ?_ _
    have hfs : Fr (fun k => k = w.heap.size) W2 (W2.setCell ⟨w.heap.size, k / 8, none⟩ (.int .u8 (cur + x * 2 ^ (k % 8)))) := Fr.setCell (M := fun k => k = w.heap.size) W2 ⟨w.heap.size, k / 8, none⟩ _ (.inl rfl)
    refine ⟨hfs.trans (Fr.drew _ _), ?_, ((HFR.out.then_ HF2.out (fun i hi h => absurd (show i = W0.heap.size + 1 from h) (by omega))).trans hfs).trans (Fr.drew _ _)⟩
    have hput := HR2.out.put (k / 8) (cur + x * 2 ^ (k % 8))
    have hset := pkL_set (bitsL zs p k) x m (by rw [bitsL_length]; exact hk8)
    rw [bitsL_length, HC.out] at hset
    rw [hset] at hput
    rw [bitsL_succ, HX.out]
    exact hput
  · intro W hsz hI hK
    obtain ⟨hrow, hfr⟩ := hI
    have hs := S0.out
    have hBa : Ba < w.heap.size := (Array.getElem?_eq_some_iff.1 HA.out).1
    have hba : W.heap[Ba]? = some (.cells #[.int .i64 p] 3 (0, 0)) := (hfr.block Ba (by omega) (fun e => absurd (show Ba = w.heap.size from e) (by omega))).trans ((F0.out.block Ba hBa).trans HA.out)
    have hc1 := Num.blk_cell hba
    have hc2 := Num.blk_free hba
    have hcv : W.cell? ⟨w.heap.size + 1, 0, none⟩ = some (.slice (some ⟨w.heap.size, 0, none⟩) m m) := hfr.cell (Num.blk_cell B1.out) (fun e => absurd (show w.heap.size + 1 = w.heap.size from e) (by omega))
    have hcv2 : ∀ u, (W.setCell ⟨Ba, 0, none⟩ u).cell? ⟨w.heap.size + 1, 0, none⟩ = some (.slice (some ⟨w.heap.size, 0, none⟩) m m) := fun u => by
      rw [World.cell?_setCell_other _ _ _ _ (by intro e; injection e with e1 _; omega)]
      exact hcv
    have hK2 : ∀ u, (W.setCell ⟨Ba, 0, none⟩ u).heap[W0.heap.size]? = some (.deferred (some [])) := fun u => (Below.heap_setCell W ⟨Ba, 0, none⟩ u W0.heap.size (by show W0.heap.size ≠ Ba; omega)).trans hK
    have HK2 := Lib.hid hK2
    have HR := Lib.hid hrow
    have HF := Lib.hid hfr
    have HB := Lib.hid hba
    clear hrow hfr hK hK2 hba
    gi_wp2
    refine leave_one rfl (HK2.out _) (results_tmp rfl _ _ _) ⟨w.heap.size, rfl, Nat.le_refl _, ?_, ?_, ?_⟩
    · exact (World.putObj_heap_other (by omega)).trans ((Below.heap_setCell W ⟨Ba, 0, none⟩ _ w.heap.size (by show w.heap.size ≠ Ba; omega)).trans HR.out)
    · rw [Int.natCast_add]
      exact (World.putObj_heap_other (by omega)).trans (Num.blk_put HB.out _)
    · have h1 : Fr (fun k => k = Ba) w W := (Fr.of_below (M := fun k => k = Ba) F0.out).then_ HF.out (fun i hi h => absurd (show i = w.heap.size from h) (by omega))
      have h2 : Fr (fun k => k = Ba) W (W.setCell ⟨Ba, 0, none⟩ (.int .i64 ((p : Int) + n))) := Fr.setCell (M := fun k => k = Ba) W ⟨Ba, 0, none⟩ _ (.inl rfl)
      exact (h1.trans h2).then_ (Fr.putObj (M := fun k => k = W0.heap.size) _ W0.heap.size (.deferred none) (.inl rfl)) (fun i hi h => absurd (show i = W0.heap.size from h) (by omega))
end Go.Proofs.YtokebpeplopjhaaDoor.Num
namespace Go.Proofs.YtokebpeplopjhaaDoor.Num
open Go.RowKit Go.Shelf Go.Proofs.YtokebpeplopjhaaDoor.Rng Go.Proofs.YtokebpeplopjhaaDoor.Mp Go.Proofs.YtokebpeplopjhaaDoorW.PrintWords Go.Proofs.YtokebpeplopjhaaDoorW.PrintMore Go.Proofs.YtokebpeplopjhaaDoorW.PrintLast
attribute [local go_sem] Oper.semAt_some

/-- The marks that ranges over functions leave in a frame. -/
def markOf (D : Nat) : Deferred := { target := .collected D, args := #[] }
def Marks (Ds : List Nat) (W : World) : Prop := (∀ D ∈ Ds, W.heap[D]? = some (.deferred (some []))) ∧ Ds.Pairwise (fun a b => a ≠ b)
theorem leave_many {P : Program} {fn : Func} {R : Ending → World → Prop} {tmps : Array Value} : ∀ (Ds : List Nat) (W : World) (u : FrameMode), u = .returning → Marks Ds W →
    (∀ W', Fr (fun k => k ∈ Ds) W W' → ∃ v, (results fn tmps).run P W' = .ok v W' ∧ R (.returned v) W') → LeavesInM Fence.wide 3 P fn tmps R (Ds.map markOf) u W
  | [], W, u, hu, _, hR => by
    subst hu
    obtain ⟨v, hr, h⟩ := hR W (Fr.refl _ _)
    exact ⟨_, hr, h⟩
  | D :: r, W, u, hu, hm, hR => by
    subst hu
    have hK := hm.1 D (by simp)
    have hp := List.pairwise_cons.1 hm.2
    have hD : D < W.heap.size := (Array.getElem?_eq_some_iff.1 hK).1
    refine ⟨by simp, .inl ⟨D, W.putObj D (.deferred none), rfl, run_takeDeferred hK, ?_⟩⟩
    refine leave_many r _ _ rfl ⟨fun D' hD' => ?_, hp.2⟩ (fun W' hf => hR W' ?_)
    · exact (World.putObj_heap_other (fun e => hp.1 D' hD' e.symm)).trans (hm.1 D' (by simp [hD']))
    · exact (Fr.putObj (M := fun k => k ∈ D :: r) W D _ (.inl (by simp))).trans (hf.mono (fun k hk => by simp [hk]))
theorem bits_stC (o : Option DD) (l : List Mp) : Bits (stC o l) := by
  intro y hy
  unfold stC at hy
  obtain ⟨m, _, hy⟩ := List.mem_flatMap.1 hy
  exact bits_bitsL _ _ _ y hy
/-- Get, and where what it tells lies. -/
def GetR (w : World) (r : It × Int) (e : Ending) (w' : World) : Prop := ∃ v, e = .returned (.tuple #[v, .bool (r.2 == 0)]) ∧ ArgV w' v r.1.val ∧ (∀ k, v.ownBlock = some k → w.heap.size ≤ k) ∧ Below w.heap.size w w'
set_option maxRecDepth 100000 in
set_option maxHeartbeats 1000000 in
theorem get_anyR (B : Nat) (v : Value) (o : Option DD) (i s : Int) (hi : 0 ≤ i ∧ i < 65536) (hs : 0 ≤ s ∧ s < 256) (w : World) (h : DictV B w v o) :
    Calls Tryd.prog 25 #[v, pl i s] w (GetR w (findC o i s)) := by
  have hb0 : Below w.heap.size w (w.alloc (.cells #[.int .u16 i, .int .u8 s] 33)) := below_alloc (Below.refl _ _) _
  have HF := Aside0.mk (find_any B v o i s hi hs _ (h.below hb0))
  generalize findC o i s = r at HF ⊢
  obtain ⟨x, n⟩ := r
  clear h
  go_enter Tryd.func25, Tryd.ntmps25
  go_wp2_with (first
    | (go_at_call 76; refine HF.out.mono ?_; rintro e w1 ⟨v0, rfl, hv, hb⟩; have HV := Aside0.mk hv; have HB := Aside0.mk hb; clear hb HF; obtain ⟨v1, v2, v3, v4, rfl, ⟨A1, a1, rfl, -⟩, ⟨A2, a2, rfl, -⟩, ⟨A3, a3, rfl, -⟩, ⟨A4, a4, rfl, hq⟩⟩ := hv; have HQ := Aside0.mk hq; clear hq)
    | (go_at_call 77; refine (clone_arg _ _ _ _ (ArgV.below (w := w1) ⟨_, _, rfl, HQ.out⟩ (below_alloc (Below.refl _ _) _))).mono ?_; rintro e w2 ⟨v5, rfl, hR, hA, hb2⟩; have HR := Aside0.mk hR; have HA := Aside0.mk hA; have HB2 := Aside0.mk hb2; clear hR hA hb2))
  go_ret2
  refine ⟨v5, rfl, HA.out, fun k hk => ?_, hb0.trans ((HB.out.mono (by simp)).trans ((below_step (below_alloc (Below.refl _ _) _) HB2.out).mono (Nat.le_trans (by simp) HB.out.size)))⟩
  have h1 := ((Kd.R_bound HR.out).1 k hk).2.1
  have h2 := HB.out.size
  have h3 := hb0.size
  simp at h1 h2 h3
  omega
set_option maxRecDepth 100000 in
set_option maxHeartbeats 4000000 in
theorem pack_any (B : Nat) (v : Value) (o : Option DD) (l : List Mp) (A : Option Addr) (c : Nat) (w : World) (h : DictV B w v o) (ht : Tbl w) (hm : MsAt w A l) (hl : l.length ≤ 1000000) (hmw : ∀ m ∈ l, m.Wf) (hwf : ∀ i s, (findC o i s).1.Wf) (h0 : checkC o l true = 0) (hv : ∀ m ∈ l, m.bits.toNat ≤ 8 * (valC o m).length) :
    Calls Tryd.prog 22 #[v, .slice A l.length c] w fun e w' => ∃ g, e = .returned (.tuple #[.slice (some ⟨g, 0, none⟩) (sizeC l) (sizeC l), .int .u32 0]) ∧ w.heap.size ≤ g ∧ RowB w' g (packC o l) ∧ Below w.heap.size w w' := by
  refine (callsIn_wide (n := 3)).1 ?_
  refine callsIn_of_wp_marks Tryd.func22 rfl trivial ?_ rfl
  simp only [Tryd.ntmps22, List.size_toArray, List.length_cons, List.length_nil, Nat.reduceAdd, Nat.reduceSub, Array.replicate_succ, Array.replicate_zero, List.push_toArray, List.append_toArray, List.nil_append, List.cons_append]
  have hall : (∀ m ∈ l, oneC o true m = 0) ∧ sumC l ≤ 64 := by
    unfold checkC at h0
    split at h0
    · simp at h0
    · exact check_all (by omega) h0
  have hbpos : ∀ m ∈ l, 0 ≤ m.bits := fun m hm => by have := one_bits (hall.1 m hm); omega
  have HCK := Lib.hid (mcheck_any B v o l A c true w h ht hm hl hmw hwf)
  rw [h0] at HCK
  have HSZ := Lib.hid fun W (hW : Below w.heap.size w W) => msize_any l A c W (hm.below hW) hl hbpos hall.2
  have HD := Lib.hid h
  have HM := Lib.hid hm
  have HMW := Lib.hid hmw
  have HWF := Lib.hid hwf
  have HALL := Lib.hid hall
  have HBP := Lib.hid hbpos
  have HV := Lib.hid hv
  obtain ⟨n, hn⟩ : ∃ n, l.length = n := ⟨_, rfl⟩
  have HN := Lib.hid hn
  obtain ⟨sz, hsz⟩ : ∃ sz, sizeC l = sz := ⟨_, rfl⟩
  have HSZE := Lib.hid hsz
  have hsz9 : sz ≤ 9 := by have := hall.2; unfold sizeC at hsz; omega
  have hmk := fun W => make_u8 sz (by omega) W
  rw [hn] at HCK HSZ hl ⊢
  rw [hsz] at HSZ ⊢
  clear h ht hm hmw hwf hall hbpos hv hn hsz h0
  gi_wp2_with (refine ⟨trivial, ?_⟩; first
    | (gi_at_call 21; refine (callsIn_wide.2 HCK.out).mono ?_; rintro e w1 ⟨rfl, hb1⟩; have HB1 := Lib.hid hb1; clear hb1)
    | (gi_at_call 23; refine (callsIn_wide.2 (HSZ.out _ HB1.out)).mono ?_; rintro e w2 ⟨rfl, hb2⟩; have HB2 := Lib.hid (HB1.out.trans (hb2.mono HB1.out.size)); clear hb2))
  refine wpIn_loop (fun a' w' => ∃ (k p : Nat) (Ds : List Nat) (u10 u11 u12 u27 u28 u29 u30 u31 u32 u33 u34 u35 u36 u37 u38 u39 u40 u58 u59 u60 u61 u62 : Value), k ≤ n ∧ (Below w2.heap.size w2 w' ∧ RowB w' w2.heap.size (pkL (stC o (l.take k)) sz) ∧ w'.heap[w2.heap.size + 1]? = some (.cells #[.slice (some ⟨w2.heap.size, 0, none⟩) sz sz] 34 (0, 0)) ∧ w'.heap[w2.heap.size + 1 + 1]? = some (.cells #[.int .i64 p] 3 (0, 0)) ∧ sumC (l.take k) = p ∧ (stC o (l.take k)).length = p ∧ Marks Ds w' ∧ ∀ D ∈ Ds, w2.heap.size + 3 ≤ D) ∧ a' = { tmps := #[v, .slice A n c, undef, undef, .slice none 0 0, .int .u32 0, .int .u32 0, .pointer (some ⟨w2.heap.size + 1, 0, none⟩), .pointer (some ⟨w2.heap.size + 1 + 1, 0, none⟩), undef, u10, u11, u12, undef, undef, v, .slice A n c, .int .u32 0, .int .u32 0, .bool false, undef, .slice A n c, .int .i64 sz, .slice (some ⟨w2.heap.size, 0, none⟩) sz sz, .slice A n c, .int .i64 n, .int .i64 k, u27, u28, u29, u30, u31, u32, u33, u34, u35, u36, u37, u38, u39, u40, undef, undef, undef, undef, undef, undef, undef, undef, undef, undef, undef, undef, undef, undef, undef, undef, undef, u58, u59, u60, u61, u62, undef], defers := Ds.map markOf }) (fun a' _ => n - (intOf (a'.tmps.getD 26 undef)).toNat) ?_ ?_
  · have hbl : ∀ (X : World) (o : Obj) (k : Nat) (q : Obj), X.heap[k]? = some q → (X.alloc o).heap[k]? = some q := fun X o k q h => (Below.heap_alloc X o k (Array.getElem?_eq_some_iff.1 h).1).trans h
    have hnew : ∀ (X : World) (o : Obj) (k : Nat), X.heap.size = k → (X.alloc o).heap[k]? = some o := fun X o k h => h ▸ World.alloc_heap_new X o
    refine ⟨0, 0, [], _, _, _, _, _, _, _, _, _, _, _, _, _, _, _, _, _, _, _, _, _, _, Nat.zero_le _, ⟨?_, ?_, ?_, ?_, by simp [sumC], by simp [stC], ⟨by simp, by simp⟩, by simp⟩, rfl⟩
    · exact (((Below.refl _ w2).alloc (Nat.le_refl _) _).alloc (by simp) _).alloc (by simp; omega) _
    · rw [show stC o (l.take 0) = [] from rfl, pkL_nil]
      exact hbl _ _ _ _ (hbl _ _ _ _ (rowB_mz w2 sz))
    · exact hbl _ _ _ _ (hnew _ _ _ (by simp))
    · exact hnew _ _ _ (by simp)
  · rintro _ wr ⟨k, p, Ds, u10, u11, u12, u27, u28, u29, u30, u31, u32, u33, u34, u35, u36, u37, u38, u39, u40, u58, u59, u60, u61, u62, hk, hI, rfl⟩
    have HI := Lib.hid hI
    clear hI
    by_cases hlt : k < n
    · obtain ⟨m, hmk⟩ : ∃ m, l[k]? = some m := ⟨_, List.getElem?_eq_getElem (by rw [HN.out]; exact hlt)⟩
      have HW := Lib.hid (HB2.out.trans (HI.out.1.mono HB2.out.size))
      obtain ⟨ad, rfl, y0, y1, y2⟩ := HM.out.below HW.out k m hmk
      have hmem := List.mem_of_getElem? hmk
      obtain ⟨hw1, hw2, hw3⟩ := HMW.out m hmem
      have hbt := one_bits (HALL.out.1 m hmem)
      have hv := HV.out m hmem
      have hst := sumC_take l k m hmk
      have hsl := (sumC_le HBP.out (k + 1)).2
      have hst2 : stC o (l.take (k + 1)) = stC o (l.take k) ++ bitsL (valC o m) 0 m.bits.toNat := by
        unfold stC
        rw [List.take_add_one, hmk]
        simp
      have hsum := HI.out.2.2.2.2.1
      rw [hsum] at hst
      rw [hst] at hsl
      have hs64 := HALL.out.2
      obtain ⟨ix, sub, bits⟩ := m
      obtain ⟨nb, rfl⟩ : ∃ nb : Nat, bits = nb := ⟨bits.toNat, by simp only at hbt; omega⟩
      simp only [Int.toNat_natCast] at hbt hv hw1 hw2 hw3 y0 y1 y2 hst hsl hst2
      have hpn : p + nb ≤ 64 := by omega
      have HST := Lib.hid hst
      have HST2 := Lib.hid hst2
      have HSL := Lib.hid hsl
      have HVL := Lib.hid hv
      have HDW := Lib.hid (HD.out.below HW.out)
      clear hst hst2 hsl hsum hmk hmem hs64 hv hw3
      gi_wp2_with (refine ⟨trivial, ?_⟩; first
        | (gi_at_call 25; refine (callsIn_wide.2 (get_anyR B v o ix sub hw1 hw2 _ (HDW.out.below (below_alloc (Below.refl _ _) _)))).mono ?_; rintro e w4 ⟨v5, rfl, ⟨A5, c5, rfl, ha5, hl5⟩, how, hb4⟩; have HA5 := Lib.hid ha5; have HOW := Lib.hid how; have HB4 := Lib.hid hb4; have y5 : w4.cell? ⟨wr.heap.size, 2, none⟩ = some (.int .i64 nb) := pw_cell_below hb4 (Go.Proofs.YtokebpeplopjhaaDoorW.PrintWords.blk_cell (Go.Proofs.YtokebpeplopjhaaDoorW.PrintWords.blk_new wr (.cells #[.int .u16 ix, .int .u8 sub, .int .i64 nb] 48)) 2); clear ha5 how hb4)
        | (gi_at_call 75; refine (callsIn_wide.2 (mbits _ _ _ _ _ _)).mono ?_; rintro e w5 ⟨rfl, rfl⟩))
      have hvz : valC o ⟨ix, sub, nb⟩ = (findC o ix sub).1.val := rfl
      rw [hvz] at HVL HST2
      clear hvz
      obtain ⟨zs, hzs⟩ : ∃ zs, (findC o ix sub).1.val = zs := ⟨_, rfl⟩
      rw [hzs] at HVL HST2 HA5 HOW hl5 ⊢
      obtain ⟨fnd, hfnd⟩ : ∃ fnd, ((findC o ix sub).2 == 0) = fnd := ⟨_, rfl⟩
      rw [hfnd]
      clear hfnd hzs
      obtain ⟨W0, hW0⟩ : ∃ W0, (((w4.alloc (.cells #[.slice A5 zs.length c5] 34)).alloc (.cells #[.int .i64 0] 3)).alloc (.cells #[.int .i64 nb] 3)) = W0 := ⟨_, rfl⟩
      have hs0 : W0.heap.size = w4.heap.size + 3 := by rw [← hW0]; simp
      have hf0 : Below w4.heap.size w4 W0 := by rw [← hW0]; exact (((Below.refl _ w4).alloc (Nat.le_refl _) _).alloc (by simp) _).alloc (by simp; omega) _
      have hbl : ∀ (X : World) (o : Obj) (k : Nat) (q : Obj), X.heap[k]? = some q → (X.alloc o).heap[k]? = some q := fun X o k q h => (Below.heap_alloc X o k (Array.getElem?_eq_some_iff.1 h).1).trans h
      have hnew : ∀ (X : World) (o : Obj) (k : Nat), X.heap.size = k → (X.alloc o).heap[k]? = some o := fun X o k h => h ▸ World.alloc_heap_new X o
      have b2 : W0.heap[w4.heap.size]? = some (.cells #[.slice A5 zs.length c5] 34 (0, 0)) := by rw [← hW0]; exact hbl _ _ _ _ (hbl _ _ _ _ (hnew _ _ _ rfl))
      have b3 : W0.heap[w4.heap.size + 1]? = some (.cells #[.int .i64 0] 3 (0, 0)) := by rw [← hW0]; exact hbl _ _ _ _ (hnew _ _ _ (by simp))
      have b4 : W0.heap[w4.heap.size + 1 + 1]? = some (.cells #[.int .i64 nb] 3 (0, 0)) := by rw [← hW0]; exact hnew _ _ _ (by simp)
      have hwr4 : wr.heap.size + 1 ≤ w4.heap.size := by have := HB4.out.size; simp at this; omega
      have hwr : Below wr.heap.size wr W0 := (((Below.refl _ wr).alloc (Nat.le_refl _) _).trans (HB4.out.mono (by simp))).trans (hf0.mono (by omega))
      have y6 : W0.cell? ⟨wr.heap.size, 2, none⟩ = some (.int .i64 nb) := pw_cell_below hf0 y5
      have hi := HI.out
      have hwi : w2.heap.size + 3 ≤ wr.heap.size := by have := (Array.getElem?_eq_some_iff.1 hi.2.2.2.1).1; omega
      have r0 : RowB W0 w2.heap.size (pkL (stC o (l.take k) ++ bitsL zs 0 0) sz) := by
        rw [show bitsL zs 0 0 = [] from rfl, List.append_nil]
        exact (hwr.block _ (by omega)).trans hi.2.1
      have b7 : W0.heap[w2.heap.size + 1]? = some (.cells #[.slice (some ⟨w2.heap.size, 0, none⟩) sz sz] 34 (0, 0)) := (hwr.block _ (by omega)).trans hi.2.2.1
      have b8 : W0.heap[w2.heap.size + 1 + 1]? = some (.cells #[.int .i64 p] 3 (0, 0)) := (hwr.block _ (by omega)).trans hi.2.2.2.1
      have hpl : (stC o (l.take k)).length = p := hi.2.2.2.2.2.1
      have hbw : Below w2.heap.size w2 W0 := hi.1.trans (hwr.mono (by omega))
      have hmk0 : Marks Ds W0 := ⟨fun D hD => (hwr.block _ (Array.getElem?_eq_some_iff.1 (hi.2.2.2.2.2.2.1.1 D hD)).1).trans (hi.2.2.2.2.2.2.1.1 D hD), hi.2.2.2.2.2.2.1.2⟩
      have hmlt : ∀ D ∈ Ds, w2.heap.size + 3 ≤ D ∧ D < W0.heap.size := fun D hD => ⟨hi.2.2.2.2.2.2.2 D hD, by have := (Array.getElem?_eq_some_iff.1 (hmk0.1 D hD)).1; omega⟩
      have hrd0 : Rd W0 A5 zs := HA5.out.rd.below hf0
      have hoff : Off (fun k => k = w2.heap.size ∨ k = W0.heap.size ∨ k = W0.heap.size + 1) A5 zs.length := by
        intro ad5 e hn h
        obtain ⟨ad6, e6, hc6⟩ := HA5.out.rd.2 hn
        have h1 := World.block_lt_of_cell? w4 _ (hc6 0 hn)
        rw [Go.Proofs.YtokebpeplopjhaaDoorW.PrintWords.add_block] at h1
        have h2 := HOW.out ad5.block (by rw [e]; rfl)
        rw [e] at e6
        injection e6 with e6
        subst e6
        simp at h2
        omega
      have hsz8 : p + nb ≤ 8 * sz := by have := HSL.out; have := HSZE.out; unfold sizeC at this; omega
      rw [hW0]
      have F0 := Lib.hid hbw
      have R0 := Lib.hid r0
      have B2 := Lib.hid b2
      have B3 := Lib.hid b3
      have B4 := Lib.hid b4
      have B7 := Lib.hid b7
      have B8 := Lib.hid b8
      have S0 := Lib.hid hs0
      have S4 := Lib.hid hwr4
      have SI := Lib.hid hwi
      have MK := Lib.hid hmk0
      have ML := Lib.hid hmlt
      have RD := Lib.hid hrd0
      have OF := Lib.hid hoff
      have PL := Lib.hid hpl
      have Y6 := Lib.hid y6
      have BY := Lib.hid HA5.out.byt
      clear hf0 hs0 hbl hnew r0 b2 b3 b4 b7 b8 hW0 hwr4 hwi hi hwr hbw hmk0 hmlt hrd0 hoff hpl y5 y6
      refine wp_range (gf := 114) (lb := #[.pointer (some ⟨w4.heap.size + 1 + 1, 0, none⟩), .pointer (some ⟨w4.heap.size + 1, 0, none⟩), .pointer (some ⟨w4.heap.size, 0, none⟩)]) rfl (enters_of Tryd.func114 (by kernel_rfl) rfl) nb (bitsV zs 0) (fun k => k = w2.heap.size) (fun _ => False)
        ⟨by have := S0.out; have := S4.out; have := SI.out; omega, by have := S0.out; have := S4.out; have := SI.out; omega⟩ ⟨id, id⟩ (by rintro k x W rfl; rfl) ?_
        (fun j W => RowB W w2.heap.size (pkL (stC o (l.take k) ++ bitsL zs 0 j) sz) ∧ Fr (fun k => k = w2.heap.size) W0 W) (fun _ _ _ => False) ?_ (fun _ _ _ _ h _ => h) ⟨R0.out, Fr.refl _ _⟩ ?_ ?_ (fun _ _ _ _ _ h => h.elim)
      · intro o
        have hs := S0.out
        have hs4 := S4.out
        have hsi := SI.out
        have hfr : Fr (fun _ => False) W0 ((W0.alloc (.deferred (some []))).alloc o) := (Fr.alloc (fun _ => False) W0 _).trans (Fr.alloc _ _ _)
        exact bits_seq (w4.heap.size + 1 + 1) (w4.heap.size + 1) w4.heap.size c5 A5 zs 0 nb _ _ (hfr.cell (Num.blk_cell B4.out) id) (hfr.cell (Num.blk_cell B3.out) id) (hfr.cell (Num.blk_cell B2.out) id) (by omega) (by omega) (by omega) (RD.out.fr hfr (fun _ _ _ => id)) OF.out BY.out (by have := HVL.out; omega) (by omega)
      · rintro j X Y ⟨h1, h2⟩ hf
        have hs := S0.out
        have hs4 := S4.out
        have hsi := SI.out
        exact ⟨(hf.block _ (Array.getElem?_eq_some_iff.1 h1).1 (by rintro (h | h | h) <;> omega)).trans h1, h2.then_ hf (fun i hi h => by rcases h with h | h | h; exact h.elim; exact absurd h (by omega); exact absurd h (by omega))⟩
      · intro ll j args W hkl hk hsz hI
        obtain rfl := hk
        obtain ⟨hrow, hfr⟩ := hI
        obtain ⟨x, hx⟩ : ∃ x, bit zs (0 + j) = x := ⟨_, rfl⟩
        have hx01 : x = 0 ∨ x = 1 := hx ▸ bit_01 _ _
        rw [hx]
        have HX := Lib.hid hx
        have HROW := Lib.hid hrow
        have HFR := Lib.hid hfr
        clear hx hrow hfr
        gi_wp2
        refine ⟨Fr.refl _ _, ?_⟩
        intro W2 hf2
        have hs := S0.out
        have hs4 := S4.out
        have hsi := SI.out
        have hk8 : (p + j) / 8 < sz := by omega
        have hbt : Bits (stC o (l.take k) ++ bitsL zs 0 j) := by
          intro y hy
          rcases List.mem_append.1 hy with hy | hy
          · exact bits_stC _ _ y hy
          · exact bits_bitsL _ _ _ y hy
        have hlen : (stC o (l.take k) ++ bitsL zs 0 j).length = p + j := by rw [List.length_append, bitsL_length, PL.out]
        obtain ⟨t, ht⟩ : ∃ t, stC o (l.take k) ++ bitsL zs 0 j = t := ⟨_, rfl⟩
        rw [ht] at hbt hlen HROW
        have HTT := Lib.hid ht
        have hrow2 : RowB W2 w2.heap.size (pkL t sz) := (hf2.block _ (Array.getElem?_eq_some_iff.1 HROW.out).1 (by omega)).trans HROW.out
        obtain ⟨hc, hfz⟩ := hrow2.cell ((p + j) / 8) (by rw [pkL_length]; exact hk8)
        rw [pkL_get _ _ _ hk8] at hc
        have hlow := byteP_low hbt
        rw [hlen] at hlow
        obtain ⟨cur, hcur⟩ : ∃ cur, byteP t ((p + j) / 8) = cur := ⟨_, rfl⟩
        rw [hcur] at hc hlow
        have hc7 : W2.cell? ⟨w2.heap.size + 1, 0, none⟩ = some (.slice (some ⟨w2.heap.size, 0, none⟩) sz sz) := hf2.cell (HFR.out.cell (Num.blk_cell B7.out) (fun e => absurd (show w2.heap.size + 1 = w2.heap.size from e) (by omega))) (fun e => absurd (show w2.heap.size + 1 = W0.heap.size + 1 from e) (by omega))
        have hc8 : W2.cell? ⟨w2.heap.size + 1 + 1, 0, none⟩ = some (.int .i64 p) := hf2.cell (HFR.out.cell (Num.blk_cell B8.out) (fun e => absurd (show w2.heap.size + 1 + 1 = w2.heap.size from e) (by omega))) (fun e => absurd (show w2.heap.size + 1 + 1 = W0.heap.size + 1 from e) (by omega))
        have hjoin := u8_join cur x ((p + j) % 8) (by omega) hlow hx01
        have HJ := Lib.hid hjoin
        have HC := Lib.hid hcur
        have HLEN := Lib.hid hlen
        have HR2 := Lib.hid hrow2
        have HF2 := Lib.hid hf2
        clear hlow hjoin hcur hrow2 hf2 hlen hbt ht
        gi_wp2
        have hS : (fun X : World => X.cell? ⟨w2.heap.size + 1, 0, none⟩ = some (.slice (some ⟨w2.heap.size, 0, none⟩) sz sz) ∧ X.cell? ⟨w2.heap.size + 1 + 1, 0, none⟩ = some (.int .i64 p)) W2.drew := ⟨hc7, hc8⟩
        refine region_in (S := fun X : World => X.cell? ⟨w2.heap.size + 1, 0, none⟩ = some (.slice (some ⟨w2.heap.size, 0, none⟩) sz sz) ∧ X.cell? ⟨w2.heap.size + 1 + 1, 0, none⟩ = some (.int .i64 p)) (by kernel_rfl) (by kernel_rfl) (by rintro ⟨_, _, h⟩; exact h) ?_
        refine wpAnyH_take (i := 0) (v := .slice (some ⟨w2.heap.size, 0, none⟩) sz sz) rfl (by kernel_rfl) (by kernel_rfl) (by kernel_rfl) (fun _ _ _ h => h) (.inl ⟨by simp [Region.wanted], fun X hX => ?_⟩) hS ?_
        · obtain ⟨h1, h2⟩ := hX
          go_simp
        refine wpAnyH_take (i := 1) (v := .int .i64 p) rfl (by kernel_rfl) (by kernel_rfl) (by kernel_rfl) (fun _ _ _ h => h) (.inl ⟨by simp [Region.wanted], fun X hX => ?_⟩) hS ?_
        · obtain ⟨h1, h2⟩ := hX
          go_simp
        refine wpAnyH_take (i := 2) (v := .int .i64 j) rfl (by kernel_rfl) (by kernel_rfl) (by kernel_rfl) (fun _ _ _ h => h) (.inl ⟨by simp [Region.wanted], fun X hX => ?_⟩) hS ?_
        · go_simp
        refine wpAnyH_take (i := 3) (v := .int .i64 ((p : Int) + j)) rfl (by kernel_rfl) (by kernel_rfl) (by kernel_rfl) (fun _ _ _ h => h) (.inl ⟨by simp [Region.wanted], fun X hX => ?_⟩) hS ?_
        · go_simp
          rw [IntKind.wrap_i64]
          omega
        refine wpAnyH_take (i := 4) (v := .int .i64 (((p : Int) + j) / 8)) rfl (by kernel_rfl) (by kernel_rfl) (by kernel_rfl) (fun _ _ _ h => h) (.inl ⟨by simp [Region.wanted], fun X hX => ?_⟩) hS ?_
        · go_simp
          rw [Int.tdiv_eq_ediv_of_nonneg (by omega), IntKind.wrap_i64]
          omega
        refine wpAnyH_take (i := 5) (v := .pointer (some ⟨w2.heap.size, (p + j) / 8, none⟩)) rfl (by kernel_rfl) (by kernel_rfl) (by kernel_rfl) (fun _ _ _ h => h) (.inl ⟨by simp [Region.wanted], fun X hX => ?_⟩) hS ?_
        · go_simp
          rw [if_pos ⟨by omega, by omega⟩, show (((p : Int) + j) / 8).toNat = (p + j) / 8 by omega]
        refine wpAnyH_take (i := 7) (v := .int .u8 x) rfl (by kernel_rfl) (by kernel_rfl) (by kernel_rfl) (fun _ _ _ h => h) (.inl ⟨by simp [Region.wanted], fun X hX => ?_⟩) hS ?_
        · go_simp
        refine wpAnyH_take (i := 8) (v := .int .i64 p) rfl (by kernel_rfl) (by kernel_rfl) (by kernel_rfl) (fun _ _ _ h => h) (.inl ⟨by simp [Region.wanted], fun X hX => ?_⟩) hS ?_
        · obtain ⟨h1, h2⟩ := hX
          go_simp
        refine wpAnyH_take (i := 9) (v := .int .i64 j) rfl (by kernel_rfl) (by kernel_rfl) (by kernel_rfl) (fun _ _ _ h => h) (.inl ⟨by simp [Region.wanted], fun X hX => ?_⟩) hS ?_
        · go_simp
        refine wpAnyH_take (i := 10) (v := .int .i64 ((p : Int) + j)) rfl (by kernel_rfl) (by kernel_rfl) (by kernel_rfl) (fun _ _ _ h => h) (.inl ⟨by simp [Region.wanted], fun X hX => ?_⟩) hS ?_
        · go_simp
          rw [IntKind.wrap_i64]
          omega
        refine wpAnyH_take (i := 11) (v := .int .i64 (((p : Int) + j) % 8)) rfl (by kernel_rfl) (by kernel_rfl) (by kernel_rfl) (fun _ _ _ h => h) (.inl ⟨by simp [Region.wanted], fun X hX => ?_⟩) hS ?_
        · go_simp
          rw [Int.tmod_eq_emod_of_nonneg (by omega)]
        refine wpAnyH_take (i := 12) (v := .int .u8 (IntKind.u8.wrap (x * 2 ^ ((p + j) % 8)))) rfl (by kernel_rfl) (by kernel_rfl) (by kernel_rfl) (fun _ _ _ h => h) (.inl ⟨by simp [Region.wanted], fun X hX => ?_⟩) hS ?_
        · go_simp
          rw [show (((p : Int) + j) % 8).toNat = (p + j) % 8 by omega]
        refine wpAnyH_ready (rs := [6]) (by kernel_rfl) (by simp) (AllReadyH.cons rfl (fun K hK => ?_) AllReadyH.nil)
        go_simp
        refine hK.out _ _ hS (fun _ => ?_)
        clear hK
        refine wpAnyH_take (i := 13) (v := .int .u8 (cur + x * 2 ^ ((p + j) % 8))) rfl (by kernel_rfl) (by kernel_rfl) (by kernel_rfl) (fun _ _ _ h => h) (.inl ⟨by simp [Region.wanted], fun X hX => ?_⟩) hS ?_
        · go_simp
          rw [HJ.out]
        refine wpAnyH_take (i := 14) (v := .pointer (some ⟨w2.heap.size, (p + j) / 8, none⟩)) rfl (by kernel_rfl) (by kernel_rfl) (by kernel_rfl) (fun _ _ _ h => h) (.inl ⟨by simp [Region.wanted], fun X hX => ?_⟩) hS ?_
        · go_simp
          rw [if_pos ⟨by omega, by omega⟩, show (((p : Int) + j) / 8).toNat = (p + j) / 8 by omega]
        refine wpAnyH_ready (rs := [15]) (by kernel_rfl) (by simp) (AllReadyH.cons rfl (fun K hK => ?_) AllReadyH.nil)
        go_simp
        refine hK.out _ _ ⟨?_, ?_⟩ (fun _ => ?_)
        · show (W2.setCell ⟨w2.heap.size, (p + j) / 8, none⟩ _).cell? _ = _
          rw [World.cell?_setCell_other _ _ _ _ (by intro e; injection e with e1 _; omega)]
          exact hc7
        · show (W2.setCell ⟨w2.heap.size, (p + j) / 8, none⟩ _).cell? _ = _
          rw [World.cell?_setCell_other _ _ _ _ (by intro e; injection e with e1 _; omega)]
          exact hc8
        clear hK
        refine wpAnyH_done (by kernel_rfl) ?_ _
        have hfs : Fr (fun k => k = w2.heap.size) W2 (W2.setCell ⟨w2.heap.size, (p + j) / 8, none⟩ (.int .u8 (cur + x * 2 ^ ((p + j) % 8)))) := Fr.setCell (M := fun k => k = w2.heap.size) W2 ⟨w2.heap.size, (p + j) / 8, none⟩ _ (.inl rfl)
        refine ⟨hfs.trans (Fr.drew _ _), ?_, ((HFR.out.then_ HF2.out (fun i hi h => absurd (show i = W0.heap.size + 1 from h) (by omega))).trans hfs).trans (Fr.drew _ _)⟩
        have hput := HR2.out.put ((p + j) / 8) (cur + x * 2 ^ ((p + j) % 8))
        have hset := pkL_set t x sz (by rw [HLEN.out]; exact hk8)
        rw [HLEN.out, HC.out] at hset
        rw [hset] at hput
        rw [bitsL_succ, HX.out, ← List.append_assoc, HTT.out]
        exact hput
      · intro W hsz hI hK
        obtain ⟨hrow, hfr⟩ := hI
        have hs := S0.out
        have hs4 := S4.out
        have hsi := SI.out
        have y6 : W.cell? ⟨wr.heap.size, 2, none⟩ = some (.int .i64 nb) := hfr.cell Y6.out (fun e => absurd (show wr.heap.size = w2.heap.size from e) (by omega))
        have hc8 : W.heap[w2.heap.size + 1 + 1]? = some (.cells #[.int .i64 p] 3 (0, 0)) := (hfr.block _ (Array.getElem?_eq_some_iff.1 B8.out).1 (by omega)).trans B8.out
        have hc8a := Num.blk_cell hc8
        have hc8b := Num.blk_free hc8
        have HROW := Lib.hid hrow
        have HFR := Lib.hid hfr
        have HK := Lib.hid hK
        have HC8 := Lib.hid hc8
        have hfr'' : ∀ W, Fr (fun k => k = w2.heap.size) W0 W → Below w2.heap.size W0 W := fun W h => h.below (fun jj hj => ⟨by omega, fun e => absurd (show jj = w2.heap.size from e) (by omega)⟩)
        clear hrow hfr hK hc8
        gi_wp2
        have hbs : ∀ (u : Value) (q : Nat), q ≠ w2.heap.size + 1 + 1 → (W.setCell ⟨w2.heap.size + 1 + 1, 0, none⟩ u).heap[q]? = W.heap[q]? := fun u q hq => Below.heap_setCell W ⟨w2.heap.size + 1 + 1, 0, none⟩ u q hq
        refine ⟨⟨k + 1, p + nb, W0.heap.size :: Ds, _, _, _, _, _, _, _, _, _, _, _, _, _, _, _, _, _, _, _, _, _, _, by omega, ⟨?_, ?_, ?_, ?_, ?_, ?_, ⟨?_, ?_⟩, ?_⟩, rfl⟩, ?_⟩
        · exact (F0.out.trans (hfr'' W HFR.out)).setCell (by simp; omega) _
        · exact (hbs _ _ (by omega)).trans (by rw [HST2.out]; exact HROW.out)
        · exact (hbs _ _ (by omega)).trans ((HFR.out.block _ (Array.getElem?_eq_some_iff.1 B7.out).1 (by omega)).trans B7.out)
        · rw [Int.natCast_add]
          exact Num.blk_put HC8.out _
        · rw [HST.out, Int.natCast_add]
        · rw [HST2.out, List.length_append, PL.out, bitsL_length]
        · intro D hD
          rcases List.mem_cons.1 hD with rfl | hD
          · exact (hbs _ _ (by omega)).trans HK.out
          · have := ML.out D hD
            exact (hbs _ _ (by omega)).trans ((HFR.out.block _ this.2 (by omega)).trans (MK.out.1 D hD))
        · exact List.pairwise_cons.2 ⟨fun D hD => by have := ML.out D hD; omega, MK.out.2⟩
        · intro D hD
          rcases List.mem_cons.1 hD with rfl | hD
          · omega
          · exact (ML.out D hD).1
        · simp [intOf]
          omega
    · obtain rfl : k = n := by omega
      obtain ⟨i1, i2, i3, i4, i5, i6, i7, i8⟩ := HI.out
      have hc := Num.blk_cell i3
      clear i1 i2 i3 i4 i5 i6 i7 i8
      gi_wp2
      obtain ⟨i1, i2, i3, i4, i5, i6, i7, i8⟩ := HI.out
      refine leave_many Ds wr _ rfl i7 (fun W' hf => ⟨_, results_tmp2 rfl _ _ _, w2.heap.size, rfl, HB2.out.size, ?_, ?_⟩)
      · have hpk : packC o l = pkL (stC o (l.take k)) sz := by
          unfold packC
          rw [HSZE.out, List.take_of_length_le (by rw [HN.out]; exact Nat.le_refl _)]
        rw [hpk]
        exact (hf.block _ (Array.getElem?_eq_some_iff.1 i2).1 (fun h => by have := i8 _ h; omega)).trans i2
      · exact HB2.out.trans (((i1.trans (hf.below (fun jj hj => ⟨by have := i1.size; omega, fun h => by have := i8 _ h; omega⟩)))).mono HB2.out.size)
end Go.Proofs.YtokebpeplopjhaaDoor.Num
namespace Go.Proofs.YtokebpeplopjhaaDoor.Mp
open Go.RowKit Go.Shelf Go.Proofs.YtokebpeplopjhaaDoor.Rng Go.Proofs.YtokebpeplopjhaaDoorW.PrintWords Go.Proofs.YtokebpeplopjhaaDoorW.PrintMore Go.Proofs.YtokebpeplopjhaaDoorW.PrintLast

/-- The document's items are those of a dictionary. -/
structure RefOf (L : List It) (d : DD) : Prop where
  it : ∀ x ∈ L, d.D x.ix x.sub = some x
  ex : ∀ i s x, d.D i s = some x → x ∈ L ∧ x.ix = i ∧ x.sub = s
  n : ∀ i, 0 < d.S i ↔ ∃ x ∈ L, x.ix = i
theorem rat_yes (g : Nat) (L : List It) (N : Int) (d : DD) (hd : RefOf L d) (i s : Int) (x : It) (hx : d.D i s = some x) (w : World) (h : RefAt w g L N) :
    Calls Tryd.prog 123 #[.pointer (some ⟨g, 0, none⟩), pl i s] w fun e w' => ∃ k : Nat, L[k]? = some x ∧ e = .returned (.tuple #[.int .i64 k, .int .u32 0]) ∧ Below w.heap.size w w' := by
  refine (rat_any g L N i s w h).mono ?_
  rintro e w' ⟨hb, ⟨k, y, hy, h1, h2, rfl⟩ | ⟨hno, -⟩⟩
  · have h3 := hd.it y (List.mem_of_getElem? hy)
    rw [h1, h2, hx] at h3
    injection h3 with h3
    exact ⟨k, by rw [hy, h3], rfl, hb⟩
  · obtain ⟨h1, h2, h3⟩ := hd.ex i s x hx
    exact absurd ⟨h2, h3⟩ (hno x h1)
theorem rat_no (g : Nat) (L : List It) (N : Int) (d : DD) (hd : RefOf L d) (i s : Int) (hx : d.D i s = none) (w : World) (h : RefAt w g L N) :
    Calls Tryd.prog 123 #[.pointer (some ⟨g, 0, none⟩), pl i s] w fun e w' => e = .returned (.tuple #[.int .i64 (-1), .int .u32 (findC (some d) i s).2]) ∧ Below w.heap.size w w' := by
  refine (rat_any g L N i s w h).mono ?_
  rintro e w' ⟨hb, ⟨k, y, hy, h1, h2, rfl⟩ | ⟨hno, rfl⟩⟩
  · have h3 := hd.it y (List.mem_of_getElem? hy)
    rw [h1, h2, hx] at h3
    cases h3
  · have e : (findC (some d) i s).2 = noC L i := by
      simp only [findC, DD.at, hx, noC]
      by_cases k : 0 < d.S i
      · rw [if_pos k, if_pos ((hd.n i).1 k)]
      · rw [if_neg k, if_neg (fun m => k ((hd.n i).2 m))]
    exact ⟨by rw [e], hb⟩
theorem no_code {d : DD} {i s : Int} (hx : d.D i s = none) : (findC (some d) i s).2 ≠ 0 ∧ (findC (some d) i s).1 = zIt := by
  simp only [findC, DD.at, hx]
  refine ⟨?_, trivial⟩
  split <;> decide
set_option maxRecDepth 100000 in
set_option maxHeartbeats 2000000 in
theorem rget_any (g : Nat) (L : List It) (N : Int) (d : DD) (hd : RefOf L d) (i s : Int) (w : World) (h : RefAt w g L N) :
    Calls Tryd.prog 84 #[.pointer (some ⟨g, 0, none⟩), pl i s] w (Num.GetR w (findC (some d) i s)) := by
  have hb0 : Below w.heap.size w (w.alloc (.cells #[.int .u16 i, .int .u8 s] 33)) := below_alloc (Below.refl _ _) _
  have HR := Aside0.mk (h.below hb0)
  cases hx : d.D i s with
  | none =>
    have HAT := Aside0.mk (rat_no g L N d hd i s hx _ (h.below hb0))
    obtain ⟨h1, h2⟩ := no_code hx
    obtain ⟨⟨y, q⟩, hq⟩ : ∃ q, findC (some d) i s = q := ⟨_, rfl⟩
    rw [hq] at HAT h1 h2 ⊢
    simp only at h1 h2 HAT
    subst h2
    have g1 : (q == 0) = false := by simpa using h1
    have g2 : (q != 0) = true := by simpa using h1
    have HQ := Aside0.mk g1
    clear h hx hq h1
    go_enter Tryd.func84, Tryd.ntmps84
    go_wp2_with (go_at_call 123; refine HAT.out.mono ?_; rintro e w1 ⟨rfl, hb⟩; have HB := Aside0.mk hb; clear hb)
    go_ret2
    exact ⟨_, by rw [HQ.out]; rfl, ArgV.nil _, fun k hk => by simp [Value.ownBlock] at hk, hb0.trans (HB.out.mono hb0.size)⟩
  | some x =>
    have HAT := Aside0.mk (rat_yes g L N d hd i s x hx _ (h.below hb0))
    have hf : findC (some d) i s = (x, 0) := by simp [findC, DD.at, hx]
    rw [hf]
    have hlen := h.choose_spec.choose_spec.2.2.1
    obtain ⟨n, hn⟩ : ∃ n, L.length = n := ⟨_, rfl⟩
    have HN := Aside0.mk hn
    clear h hx hf
    go_enter Tryd.func84, Tryd.ntmps84
    go_wp2_with (first
      | (go_at_call 123; go_loud (refine HAT.out.mono ?_; rintro e w1 ⟨k, hk, rfl, hb⟩; have HB := Aside0.mk hb; obtain ⟨A, c, hg1, hit, -, hlc⟩ := HR.out.below hb; rw [HN.out] at hg1; have g0 : w1.cell? ⟨g, 0, none⟩ = some (.slice A n c) := Go.Proofs.YtokebpeplopjhaaDoorW.PrintWords.blk_cell hg1 0; obtain ⟨ad, A1, a1, A2, a2, A3, a3, A4, a4, rfl, -, -, -, hv4, -, -, -, -, -, -, -, -, -, -, y10⟩ := it_at hit hk; have HV := Aside0.mk hv4; have hkn : k < n := HN.out ▸ (List.getElem?_eq_some_iff.1 hk).1; have hi1 : (k : Int) < (n : Int) := (by omega); clear hb hit hk hg1 hv4))
      | (go_at_call 124; go_loud (obtain ⟨A', c', e1, ha, hl4⟩ := HV.out; injection e1 with e1 e2 e3; subst e1 e3; refine (rown_any _ _ _ _ ha hl4).mono ?_; rintro e w2 ⟨v5, rfl, ha5, ho5, hb2⟩; have HA := Aside0.mk ha5; have HO := Aside0.mk ho5; have HB2 := Aside0.mk hb2; clear ha5 ho5 hb2)))
    go_ret2
    exact ⟨v5, rfl, HA.out, fun k hk => by have := HO.out k hk; have := HB.out.size; have := hb0.size; omega, hb0.trans ((HB.out.trans (HB2.out.mono HB.out.size)).mono hb0.size)⟩
end Go.Proofs.YtokebpeplopjhaaDoor.Mp
namespace Go.Proofs.YtokebpeplopjhaaDoor.Mp
open Go.RowKit Go.Shelf Go.Proofs.YtokebpeplopjhaaDoor.Rng Go.Proofs.YtokebpeplopjhaaDoorW.PrintWords Go.Proofs.YtokebpeplopjhaaDoorW.PrintMore Go.Proofs.YtokebpeplopjhaaDoorW.PrintLast

theorem it_at2 {w W : World} (hb : Below w.heap.size w W) {A : Option Addr} {L : List It} (h : ItsAt w A L) {k : Nat} {x : It} (hk : L[k]? = some x) :
    ∃ ad A1 a1 A2 a2 A3 a3 A4 a4, A = some ad ∧ ArgV w (.slice A1 x.df.length a1) x.df ∧ ArgV w (.slice A2 x.lo.length a2) x.lo ∧ ArgV w (.slice A3 x.hi.length a3) x.hi ∧ ArgV w (.slice A4 x.val.length a4) x.val ∧
      W.cell? (ad.add (k * 11)) = some (.int .u16 x.ix) ∧ W.cell? ⟨(ad.add (k * 11)).block, (ad.add (k * 11)).off + 1, none⟩ = some (.int .u8 x.sub) ∧ W.cell? ⟨(ad.add (k * 11)).block, (ad.add (k * 11)).off + 2, none⟩ = some (.string x.name) ∧
      W.cell? ⟨(ad.add (k * 11)).block, (ad.add (k * 11)).off + 3, none⟩ = some (.int .u8 x.ty) ∧ W.cell? ⟨(ad.add (k * 11)).block, (ad.add (k * 11)).off + 4, none⟩ = some (.int .u8 x.rt) ∧ W.cell? ⟨(ad.add (k * 11)).block, (ad.add (k * 11)).off + 5, none⟩ = some (.slice A1 x.df.length a1) ∧
      W.cell? ⟨(ad.add (k * 11)).block, (ad.add (k * 11)).off + 6, none⟩ = some (.slice A2 x.lo.length a2) ∧ W.cell? ⟨(ad.add (k * 11)).block, (ad.add (k * 11)).off + 7, none⟩ = some (.slice A3 x.hi.length a3) ∧ W.cell? ⟨(ad.add (k * 11)).block, (ad.add (k * 11)).off + 8, none⟩ = some (.int .u8 x.tag) ∧
      W.cell? ⟨(ad.add (k * 11)).block, (ad.add (k * 11)).off + 9, none⟩ = some (.int .u8 x.grp) ∧ W.cell? ⟨(ad.add (k * 11)).block, (ad.add (k * 11)).off + 10, none⟩ = some (.slice A4 x.val.length a4) := by
  obtain ⟨ad, A1, a1, A2, a2, A3, a3, A4, a4, hA, h1, h2, h3, h4, y0, y1, y2, y3, y4, y5, y6, y7, y8, y9, y10⟩ := it_at h hk
  have f := fun {a : Addr} {u : Value} (e : w.cell? a = some u) => pw_cell_below hb e
  exact ⟨ad, A1, a1, A2, a2, A3, a3, A4, a4, hA, h1, h2, h3, h4, f y0, f y1, f y2, f y3, f y4, f y5, f y6, f y7, f y8, f y9, f y10⟩
theorem rfd_end {tmps : Array Value} {W : World} {b : Nat} {cs : Array Value} {t : TypeId} {n : Int} (h4 : tmps.getD 4 undef = .pointer (some ⟨b, 0, none⟩)) (h5 : tmps.getD 5 undef = .int .u32 n) (hb : W.heap[b]? = some (.cells cs t (0, 0))) (hs : cs.size = 10) :
    (results Tryd.f121 tmps).run Tryd.prog W = .ok (.tuple #[.agg cs, .int .u32 n]) W := by
  rw [← h5]
  exact results_ct rfl tmps W b t cs (0, 0) _ h4 hb Tryd.underlying121 rfl (by rw [info_en, hs])
set_option maxRecDepth 100000 in
set_option maxHeartbeats 2000000 in
theorem rfind_any (g : Nat) (L : List It) (N : Int) (d : DD) (hd : RefOf L d) (i s : Int) (w : World) (h : RefAt w g L N) :
    Calls Tryd.prog 121 #[.pointer (some ⟨g, 0, none⟩), pl i s] w (FddSaid w (findC (some d) i s)) := by
  obtain ⟨W0, hW0⟩ : ∃ W0, ((w.alloc (.cells #[.int .u16 i, .int .u8 s] 33)).alloc (.cells #[.int .u16 0, .int .u8 0, .string { data := #[] }, .int .u8 0, .int .u8 0, .slice none 0 0, .slice none 0 0, .slice none 0 0, .int .u8 0, .int .u8 0] 121)) = W0 := ⟨_, rfl⟩
  have hb0 : Below w.heap.size w W0 := hW0 ▸ (below_alloc (Below.refl _ _) _).alloc (by simp) _
  have hr0 : W0.heap[w.heap.size + 1]? = some (.cells #[.int .u16 0, .int .u8 0, .string { data := #[] }, .int .u8 0, .int .u8 0, .slice none 0 0, .slice none 0 0, .slice none 0 0, .int .u8 0, .int .u8 0] 121 (0, 0)) := by
    have := blk_new (w.alloc (.cells #[.int .u16 i, .int .u8 s] 33)) (.cells #[.int .u16 0, .int .u8 0, .string { data := #[] }, .int .u8 0, .int .u8 0, .slice none 0 0, .slice none 0 0, .slice none 0 0, .int .u8 0, .int .u8 0] 121)
    rw [World.size_alloc, hW0] at this
    exact this
  have hc0 : W0.cell? ⟨w.heap.size, 0, none⟩ = some (.int .u16 i) := by
    rw [← hW0]
    exact blk_cell (blk_alloc (blk_new w _) _) 0
  have hc1 : W0.cell? ⟨w.heap.size, 1, none⟩ = some (.int .u8 s) := by
    rw [← hW0]
    exact blk_cell (blk_alloc (blk_new w _) _) 1
  have HB0 := Aside0.mk hb0
  have HR0 := Aside0.mk hr0
  have hra := h.below hb0
  obtain ⟨A, c, hg, hit, -, hlc⟩ := h
  obtain ⟨n, hn⟩ : ∃ n, L.length = n := ⟨_, rfl⟩
  have HN := Aside0.mk hn
  rw [hn] at hg hlc
  have HG := Aside0.mk hg
  have HI := Aside0.mk hit
  clear hg hit hn hr0
  cases hx : d.D i s with
  | none =>
    have HAT := Aside0.mk (rat_no g L N d hd i s hx _ hra)
    obtain ⟨h1, h2⟩ := no_code hx
    obtain ⟨⟨y, q⟩, hq⟩ : ∃ q, findC (some d) i s = q := ⟨_, rfl⟩
    rw [hq] at HAT h1 h2 ⊢
    simp only at h1 h2 HAT
    subst h2
    have g1 : (q == 0) = false := by simpa using h1
    have g2 : (q != 0) = true := by simpa using h1
    clear hra hx hq h1 hb0
    go_enter Tryd.func121, Tryd.ntmps121
    go_wp2_with (go_at_call 123; refine HAT.out.mono ?_; rintro e w1 ⟨rfl, hb⟩; have hr2 := blk_below HR0.out hb; obtain ⟨k0, k1, k2, k3, k4, k5, k6, k7, k8, k9, kf⟩ := held10 hr2; have HR2 := Aside0.mk hr2; have HB := Aside0.mk hb; clear hb hr2)
    rw [cells10]
    refine bodyPost_ret (rfd_end (b := w.heap.size + 1) (cs := #[.int .u16 0, .int .u8 0, .string { data := #[] }, .int .u8 0, .int .u8 0, .slice none 0 0, .slice none 0 0, .slice none 0 0, .int .u8 0, .int .u8 0]) (t := 121) rfl rfl ?_ rfl) rfl ⟨_, rfl, ⟨_, _, _, rfl, ArgV.nil _, ArgV.nil _, ArgV.nil _⟩, ?_⟩
    · exact row10 HR2.out ..
    · exact below_cells (by omega) _ _ (HB0.out.trans (HB.out.mono HB0.out.size))
  | some x =>
    have HAT := Aside0.mk (rat_yes g L N d hd i s x hx _ hra)
    have hf : findC (some d) i s = (x, 0) := by simp [findC, DD.at, hx]
    rw [hf]
    clear hra hx hf hb0
    go_enter Tryd.func121, Tryd.ntmps121
    go_wp2_with (go_at_call 123; refine HAT.out.mono ?_; rintro e w1 ⟨k, hk, rfl, hb⟩; have HB := Aside0.mk (HB0.out.trans (hb.mono HB0.out.size)); have hr2 := blk_below HR0.out hb; obtain ⟨k0, k1, k2, k3, k4, k5, k6, k7, k8, k9, kf⟩ := held10 hr2; have HR2 := Aside0.mk hr2; have hg1 := blk_below HG.out HB.out; have g0 : w1.cell? ⟨g, 0, none⟩ = some (.slice A n c) := Go.Proofs.YtokebpeplopjhaaDoorW.PrintWords.blk_cell hg1 0; obtain ⟨ad, A1, a1, A2, a2, A3, a3, A4, a4, rfl, hv1, hv2, hv3, -, y0, y1, y2, y3, y4, y5, y6, y7, y8, y9, -⟩ := it_at2 HB.out HI.out hk; have HV := Aside0.mk (And.intro hv1 (And.intro hv2 hv3)); have hkn : k < n := HN.out ▸ (List.getElem?_eq_some_iff.1 hk).1; have hi1 : (k : Int) < (n : Int) := (by omega); clear hb hr2 hk hg1 hv1 hv2 hv3)
    rw [cells10]
    refine bodyPost_ret (rfd_end (b := w.heap.size + 1) (cs := #[.int .u16 x.ix, .int .u8 x.sub, .string x.name, .int .u8 x.ty, .int .u8 x.rt, .slice A1 x.df.length a1, .slice A2 x.lo.length a2, .slice A3 x.hi.length a3, .int .u8 x.tag, .int .u8 x.grp]) (t := 121) rfl rfl ?_ rfl) rfl ⟨_, rfl, ⟨_, _, _, rfl, HV.out.1.below ?_, HV.out.2.1.below ?_, HV.out.2.2.below ?_⟩, ?_⟩
    · exact row10 HR2.out ..
    all_goals exact below_cells (by omega) _ _ HB.out
end Go.Proofs.YtokebpeplopjhaaDoor.Mp
namespace Go.Proofs.YtokebpeplopjhaaDoor.Mp
open Go.RowKit Go.Shelf Go.Proofs.YtokebpeplopjhaaDoor.Rng Go.Proofs.YtokebpeplopjhaaDoorW.PrintWords Go.Proofs.YtokebpeplopjhaaDoorW.PrintMore Go.Proofs.YtokebpeplopjhaaDoorW.PrintLast

theorem rchk_v (t : Int) {A : Option Addr} {c : Nat} {b : List Int} {A2 : Option Addr} {a2 : Nat} {lo : List Int} {A3 : Option Addr} {a3 : Nat} {hi : List Int} {w W : World} (hb : Arg w A c b) (hl : ArgV w (.slice A2 lo.length a2) lo) (hh : ArgV w (.slice A3 hi.length a3) hi) (hB : Below w.heap.size w W) :
    Calls Tryd.prog 125 #[.int .u8 t, .slice A b.length c, .slice A2 lo.length a2, .slice A3 hi.length a3] W (ChkSaidR W (chkC t b lo hi)) := by
  obtain ⟨A2', a2', e2, h2, -⟩ := hl
  injection e2 with e21 e22 e23
  subst e21 e23
  obtain ⟨A3', a3', e3, h3, -⟩ := hh
  injection e3 with e31 e32 e33
  subst e31 e33
  exact chk_R t hb.byt h2.byt h3.byt ▸ rcheck_any t A c b A2 a2 lo A3 a3 hi W (hb.below hB) (h2.below hB) (h3.below hB)
set_option maxRecDepth 100000 in
set_option maxHeartbeats 2000000 in
theorem rmayw_any (g : Nat) (L : List It) (N : Int) (d : DD) (hd : RefOf L d) (i s : Int) (A0 : Option Addr) (c0 : Nat) (b : List Int) (w : World) (h : RefAt w g L N) (hb : Arg w A0 c0 b) (hwf : (findC (some d) i s).1.Wf) :
    Calls Tryd.prog 87 #[.pointer (some ⟨g, 0, none⟩), pl i s, .slice A0 b.length c0] w (MaySaid w (mayW (some d) i s b)) := by
  have hb0 : Below w.heap.size w (w.alloc (.cells #[.int .u16 i, .int .u8 s] 33)) := below_alloc (Below.refl _ _) _
  have HB0 := Aside0.mk hb0
  have HA := Aside0.mk hb
  have hra := h.below hb0
  obtain ⟨A, c, hg, hit, -, hlc⟩ := h
  obtain ⟨n, hn⟩ : ∃ n, L.length = n := ⟨_, rfl⟩
  have HN := Aside0.mk hn
  rw [hn] at hg hlc
  have HG := Aside0.mk hg
  have HI := Aside0.mk hit
  obtain ⟨r, hr⟩ : ∃ r, mayW (some d) i s b = r := ⟨_, rfl⟩
  rw [hr]
  unfold mayW at hr
  clear hg hit hn hb hb0
  cases hx : d.D i s with
  | none =>
    have HAT := Aside0.mk (rat_no g L N d hd i s hx _ hra)
    obtain ⟨h1, -⟩ := no_code hx
    obtain ⟨q, hq⟩ : ∃ q, (findC (some d) i s).2 = q := ⟨_, rfl⟩
    rw [hq] at HAT h1 hr
    rw [if_pos h1] at hr
    subst hr
    have g1 : (q == 0) = false := by simpa using h1
    have g2 : (q != 0) = true := by simpa using h1
    clear hra hx hq h1 hwf
    go_enter Tryd.func87, Tryd.ntmps87
    go_wp2_with (go_at_call 123; refine HAT.out.mono ?_; rintro e w1 ⟨rfl, hb⟩; have HB := Aside0.mk hb; clear hb)
    go_ret2
    exact ⟨rfl, HB0.out.trans (HB.out.mono HB0.out.size)⟩
  | some x =>
    have HAT := Aside0.mk (rat_yes g L N d hd i s x hx _ hra)
    have hf : findC (some d) i s = (x, 0) := by simp [findC, DD.at, hx]
    rw [hf] at hr hwf
    simp only at hr hwf
    rw [if_neg (by simp)] at hr
    have hrt := u8_two x.rt hwf.rt
    clear hra hx hf
    by_cases h2 : x.rt / 2 % 2 = 0
    · rw [if_pos h2] at hr
      subst hr
      rw [h2] at hrt
      clear hwf h2
      go_enter Tryd.func87, Tryd.ntmps87
      go_wp2_with (go_at_call 123; refine HAT.out.mono ?_; rintro e w1 ⟨k, hk, rfl, hb⟩; have HB := Aside0.mk (HB0.out.trans (hb.mono HB0.out.size)); have hg1 := blk_below HG.out HB.out; have g0 : w1.cell? ⟨g, 0, none⟩ = some (.slice A n c) := Go.Proofs.YtokebpeplopjhaaDoorW.PrintWords.blk_cell hg1 0; obtain ⟨ad, A1, a1, A2, a2, A3, a3, A4, a4, rfl, hv1, hv2, hv3, -, y0, y1, y2, y3, y4, y5, y6, y7, y8, y9, -⟩ := it_at2 HB.out HI.out hk; have HV := Aside0.mk (And.intro hv1 (And.intro hv2 hv3)); have hkn : k < n := HN.out ▸ (List.getElem?_eq_some_iff.1 hk).1; have hi1 : (k : Int) < (n : Int) := (by omega); clear hb hk hg1 hv1 hv2 hv3)
      go_ret2
      exact ⟨rfl, HB.out.trans ((below_alloc (Below.refl _ _) _).mono HB.out.size)⟩
    · have h2' : x.rt / 2 % 2 = 1 := by omega
      rw [if_neg h2] at hr
      rw [h2'] at hrt
      obtain ⟨q, hq⟩ : ∃ q, chkC x.ty b x.lo x.hi = q := ⟨_, rfl⟩
      simp only [hq] at hr
      have HQ := Aside0.mk hq
      obtain ⟨q0, q1, hr1⟩ : ∃ q0 q1 : Bool, ((q == 0) = q0 ∧ (q != 0) = q1) ∧ ((q0 = true ∧ q1 = false ∧ q = 0 ∧ r = (x.tag, 0)) ∨ (q0 = false ∧ q1 = true ∧ r = (0, q))) := by
        by_cases hq0 : q = 0
        · rw [if_neg (by simp [hq0])] at hr
          exact ⟨true, false, by simp [hq0], .inl ⟨rfl, rfl, hq0, hr.symm⟩⟩
        · rw [if_pos hq0] at hr
          exact ⟨false, true, by simp [hq0], .inr ⟨rfl, rfl, hr.symm⟩⟩
      obtain ⟨⟨g1, g2⟩, hr1⟩ := hr1
      clear hr hq hwf h2 h2'
      rcases hr1 with ⟨rfl, rfl, hqe, rfl⟩ | ⟨rfl, rfl, rfl⟩
      all_goals
        try subst hqe
        go_enter Tryd.func87, Tryd.ntmps87
        go_wp2_with (first
          | (go_at_call 123; refine HAT.out.mono ?_; rintro e w1 ⟨k, hk, rfl, hb⟩; have HB := Aside0.mk (HB0.out.trans (hb.mono HB0.out.size)); have hg1 := blk_below HG.out HB.out; have g0 : w1.cell? ⟨g, 0, none⟩ = some (.slice A n c) := Go.Proofs.YtokebpeplopjhaaDoorW.PrintWords.blk_cell hg1 0; obtain ⟨ad, A1, a1, A2, a2, A3, a3, A4, a4, rfl, hv1, hv2, hv3, -, y0, y1, y2, y3, y4, y5, y6, y7, y8, y9, -⟩ := it_at2 HB.out HI.out hk; have HV := Aside0.mk (And.intro hv1 (And.intro hv2 hv3)); have hkn : k < n := HN.out ▸ (List.getElem?_eq_some_iff.1 hk).1; have hi1 : (k : Int) < (n : Int) := (by omega); clear hb hk hg1 hv1 hv2 hv3)
          | (go_at_call 125; refine (rchk_v x.ty HA.out HV.out.2.1 HV.out.2.2 (HB.out.alloc HB.out.size _)).mono ?_; rw [HQ.out]; rintro e w2 ⟨rfl, hb2⟩; have HB2 := Aside0.mk hb2; have hc8 := pw_cell_below hb2 (blk_cell (blk_new w1 _) 8); clear hb2))
        go_ret2
        exact ⟨rfl, HB.out.trans ((below_step (below_alloc (Below.refl _ _) _) HB2.out).mono HB.out.size)⟩
end Go.Proofs.YtokebpeplopjhaaDoor.Mp
namespace Go.Proofs.YtokebpeplopjhaaDoor.Mp
open Go.RowKit Go.Shelf Go.Proofs.YtokebpeplopjhaaDoor.Rng Go.Proofs.YtokebpeplopjhaaDoorW.PrintWords Go.Proofs.YtokebpeplopjhaaDoorW.PrintMore Go.Proofs.YtokebpeplopjhaaDoorW.PrintLast

/-- The document's dictionary that may be nil. -/
def RefV (w : World) (v : Value) : Option DD → Prop
  | none => v = .pointer none
  | some d => ∃ g L N, v = .pointer (some ⟨g, 0, none⟩) ∧ RefAt w g L N ∧ RefOf L d
theorem RefV.below {w w' : World} {v : Value} : ∀ {o : Option DD}, RefV w v o → Below w.heap.size w w' → RefV w' v o
  | none, h, _ => h
  | some _, ⟨g, L, N, e, h, r⟩, hb => ⟨g, L, N, e, h.below hb, r⟩
theorem u8_rt (r : Int) (h : 0 ≤ r ∧ r < 256) : (bits .and .u8 r 4 == 0) = decide (r / 4 % 2 = 0) ∧ (bits .and .u8 r 2 == 0) = decide (r / 2 % 2 = 0) ∧ (bits .and .u8 r 1 == 0) = decide (r % 2 = 0) := by
  obtain ⟨n, rfl⟩ := Int.eq_ofNat_of_zero_le h.1
  have hn : n < 256 := by omega
  have all : ∀ j : Fin 256, (bits .and .u8 ((j.val : Nat) : Int) 4 == 0) = decide (((j.val : Nat) : Int) / 4 % 2 = 0) ∧ (bits .and .u8 ((j.val : Nat) : Int) 2 == 0) = decide (((j.val : Nat) : Int) / 2 % 2 = 0) ∧ (bits .and .u8 ((j.val : Nat) : Int) 1 == 0) = decide (((j.val : Nat) : Int) % 2 = 0) := by decide +kernel
  exact all ⟨n, hn⟩
theorem ite_iff {P Q : Prop} [Decidable P] [Decidable Q] {a b : Int} (h : P ↔ Q) : (if P then a else b) = if Q then a else b := by
  by_cases k : P
  · rw [if_pos k, if_pos (h.1 k)]
  · rw [if_neg k, if_neg (fun m => k (h.2 m))]
/-- The rights of one Map, as three answers. -/
theorem want_rt {rt : Int} (hrt : 0 ≤ rt ∧ rt < 256) (out : Bool) (F : Prop) [Decidable F] {r : Int} (hr : (if wantC rt out ∧ F then (0 : Int) else 0x06040041) = r) :
    ∃ p q f : Bool, (bits .and .u8 rt 4 == 0) = p ∧ (bits .and .u8 rt (if out then 1 else 2) == 0) = q ∧ decide F = f ∧ r = if p = false ∧ q = false ∧ f = true then 0 else 0x06040041 := by
  obtain ⟨h4, h2, h1⟩ := u8_rt rt hrt
  refine ⟨_, _, _, rfl, rfl, rfl, ?_⟩
  rw [← hr]
  cases out
  all_goals
    simp only [wantC, h4, h2, h1, if_true, Bool.false_eq_true, if_false, decide_eq_false_iff_not, decide_eq_true_eq]
    refine ite_iff ?_
    constructor
    · rintro ⟨⟨a, b⟩, c⟩
      exact ⟨by omega, by omega, c⟩
    · rintro ⟨a, b, c⟩
      exact ⟨⟨by omega, by omega⟩, c⟩
set_option maxRecDepth 100000 in
set_option maxHeartbeats 2000000 in
theorem rone_any (v : Value) (o : Option DD) (m : Mp) (hi : 0 ≤ m.ix ∧ m.ix < 65536) (hs : 0 ≤ m.sub ∧ m.sub < 256) (out : Bool) (w : World) (h : RefV w v o) (hwf : (findC o m.ix m.sub).1.Wf) :
    Calls Tryd.prog 83 #[v, mpV m.ix m.sub m.bits, .bool out] w (ChkOne w (oneC o out m)) := by
  obtain ⟨i, s, b⟩ := m
  simp only at hi hs hwf ⊢
  have hb0 : Below w.heap.size w (w.alloc (.cells #[.int .u16 i, .int .u8 s, .int .i64 b] 146)) := below_alloc (Below.refl _ _) _
  have hrow := blk_new w (.cells #[.int .u16 i, .int .u8 s, .int .i64 b] 146)
  have HROW := Aside0.mk hrow
  have HG := Aside0.mk (rgap_any i s b hi (w.alloc (.cells #[.int .u16 i, .int .u8 s, .int .i64 b] 146)))
  have HFI := Aside0.mk fun t W => rfits_any t b W
  obtain ⟨r, hr⟩ : ∃ r, oneC o out ⟨i, s, b⟩ = r := ⟨_, rfl⟩
  rw [hr]
  unfold oneC at hr
  simp only at hr
  by_cases hg : gapC ⟨i, s, b⟩
  · rw [if_pos hg] at hr
    rw [decide_eq_true hg] at HG
    cases out
    all_goals
      simp at hr
      subst hr
      go_enter Tryd.func83, Tryd.ntmps83
      go_wp2_with (go_at_call 86; refine HG.out.mono ?_; rintro e w1 ⟨rfl, hb⟩; have HB := Aside0.mk hb; clear hb)
      go_ret
      exact ⟨rfl, hb0.trans (HB.out.mono (by simp))⟩
  · rw [if_neg hg] at hr
    rw [decide_eq_false hg] at HG
    cases o with
    | none =>
      obtain rfl : v = .pointer none := h
      simp [findC] at hr
      subst hr
      clear hwf
      go_enter Tryd.func83, Tryd.ntmps83
      go_wp2_with (go_at_call 86; refine HG.out.mono ?_; rintro e w1 ⟨rfl, hb⟩; have HB := Aside0.mk hb; clear hb)
      go_ret
      exact ⟨rfl, hb0.trans (HB.out.mono (by simp))⟩
    | some d =>
      obtain ⟨g, L, N, rfl, hra, hd⟩ := h
      have HF := Aside0.mk fun W (hW : Below (w.alloc (.cells #[.int .u16 i, .int .u8 s, .int .i64 b] 146)).heap.size (w.alloc (.cells #[.int .u16 i, .int .u8 s, .int .i64 b] 146)) W) => rfind_any g L N d hd i s W ((hra.below hb0).below hW)
      generalize findC (some d) i s = q at HF hr hwf
      obtain ⟨x, n⟩ := q
      simp only at hr hwf
      clear hrow hra hd
      by_cases hn : n = 0
      · subst hn
        rw [if_neg (by simp)] at hr
        obtain ⟨p, q, f, hp, hq, hf, hrr⟩ := want_rt hwf.rt out _ hr
        have HF1 := Aside0.mk hf
        clear hr hwf hf
        cases out <;> cases p <;> cases q <;> cases f
        all_goals
          simp at hrr
          subst hrr
          simp only [Bool.false_eq_true, if_false, if_true] at hq
          go_enter Tryd.func83, Tryd.ntmps83
          go_wp2_with (first
            | (go_at_call 86; refine HG.out.mono ?_; rintro e w1 ⟨rfl, hb⟩; have HB := Aside0.mk hb; obtain ⟨c0, c1, c2, -⟩ := held3 (blk_below HROW.out hb); clear hb)
            | (go_at_call 121; refine (HF.out _ HB.out).mono ?_; rintro e w2 ⟨v0, rfl, hv, hb2⟩; obtain ⟨v1, v2, v3, rfl, ⟨A1, a1, rfl, -⟩, ⟨A2, a2, rfl, -⟩, ⟨A3, a3, rfl, -⟩⟩ := hv; have HB2 := Aside0.mk (HB.out.trans (hb2.mono HB.out.size)); have d0 := fun o => (held3 (blk_alloc (blk_below HROW.out HB2.out) o)).1; have d1 := fun o => (held3 (blk_alloc (blk_below HROW.out HB2.out) o)).2.1; have d2 := fun o => (held3 (blk_alloc (blk_below HROW.out HB2.out) o)).2.2.1; clear hb2)
            | (go_at_call 122; refine (HFI.out _ _).mono ?_; rw [HF1.out]; rintro e w3 ⟨rfl, hw3⟩; subst hw3))
          go_ret
          exact ⟨rfl, hb0.trans ((HB2.out.alloc HB2.out.size _).mono (by simp))⟩
      · rw [if_pos hn] at hr
        have g1 : (n == 0) = false := by simpa using hn
        have g2 : (n != 0) = true := by simpa using hn
        subst hr
        clear hwf
        cases out
        all_goals
          go_enter Tryd.func83, Tryd.ntmps83
          go_wp2_with (first
            | (go_at_call 86; refine HG.out.mono ?_; rintro e w1 ⟨rfl, hb⟩; have HB := Aside0.mk hb; obtain ⟨c0, c1, c2, -⟩ := held3 (blk_below HROW.out hb); clear hb)
            | (go_at_call 121; refine (HF.out _ HB.out).mono ?_; rintro e w2 ⟨v0, rfl, hv, hb2⟩; obtain ⟨v1, v2, v3, rfl, ⟨A1, a1, rfl, -⟩, ⟨A2, a2, rfl, -⟩, ⟨A3, a3, rfl, -⟩⟩ := hv; have HB2 := Aside0.mk (HB.out.trans (hb2.mono HB.out.size)); have d0 := fun o => (held3 (blk_alloc (blk_below HROW.out HB2.out) o)).1; have d1 := fun o => (held3 (blk_alloc (blk_below HROW.out HB2.out) o)).2.1; have d2 := fun o => (held3 (blk_alloc (blk_below HROW.out HB2.out) o)).2.2.1; clear hb2))
          go_ret
          exact ⟨rfl, hb0.trans ((HB2.out.alloc HB2.out.size _).mono (by simp))⟩
end Go.Proofs.YtokebpeplopjhaaDoor.Mp
namespace Go.Proofs.YtokebpeplopjhaaDoor.Mp
open Go.RowKit Go.Shelf Go.Proofs.YtokebpeplopjhaaDoor.Rng Go.Proofs.YtokebpeplopjhaaDoorW.PrintWords Go.Proofs.YtokebpeplopjhaaDoorW.PrintMore Go.Proofs.YtokebpeplopjhaaDoorW.PrintLast

set_option maxRecDepth 100000 in
set_option maxHeartbeats 2000000 in
theorem rmcheck_any (v : Value) (o : Option DD) (l : List Mp) (A : Option Addr) (c : Nat) (out : Bool) (w : World) (h : RefV w v o) (hm : MsAt w A l) (hl : l.length ≤ 1000000) (hmw : ∀ m ∈ l, m.Wf) (hwf : ∀ i s, (findC o i s).1.Wf) :
    Calls Tryd.prog 31 #[v, .slice A l.length c, .bool out] w (ChkOne w (checkC o l out)) := by
  obtain ⟨r, hr⟩ : ∃ r, checkC o l out = r := ⟨_, rfl⟩
  rw [hr]
  unfold checkC at hr
  have HD := Aside0.mk h
  have HM := Aside0.mk hm
  have HMW := Aside0.mk hmw
  have HWF := Aside0.mk hwf
  obtain ⟨n, hn⟩ : ∃ n, l.length = n := ⟨_, rfl⟩
  have HN := Aside0.mk hn
  rw [hn] at hr hl ⊢
  clear h hm hmw hwf hn
  by_cases h64 : 64 < n
  · rw [if_pos h64] at hr
    subst hr
    go_enter Tryd.func31, Tryd.ntmps31
    go_wp2
    go_ret
    exact ⟨rfl, Below.refl _ _⟩
  · rw [if_neg h64] at hr
    have HR := Aside0.mk hr
    clear hr
    go_enter Tryd.func31, Tryd.ntmps31
    go_wp2
    go_loopw [7, 8] (fun bs i wr => ∃ (k : Nat) (bits : Int), k ≤ n ∧ i = .int .i64 k ∧ bs = .int .i64 bits ∧ 0 ≤ bits ∧ bits ≤ 64 ∧ Aside0 (checkL o out l 64 = checkL o out (l.drop k) (64 - bits)) ∧ Aside0 (Below w.heap.size w wr)) (fun _ i _ => n - (intOf i).toNat)
    case atStart => exact ⟨0, 0, Nat.zero_le _, rfl, rfl, by omega, by omega, ⟨rfl⟩, ⟨Below.refl _ _⟩⟩
    case round =>
      obtain ⟨k, bs, hk, rfl, rfl, hl0, hl1, HC, HB⟩ := hrel
      by_cases hlt : k < n
      · obtain ⟨m, hmk⟩ : ∃ m, l[k]? = some m := ⟨_, List.getElem?_eq_getElem (by rw [HN.out]; exact hlt)⟩
        have HMK := Aside0.mk hmk
        obtain ⟨ad, rfl, y0, y1, y2⟩ := HM.out.below HB.out k m hmk
        obtain ⟨hw1, hw2, hw3⟩ := HMW.out m (List.mem_of_getElem? hmk)
        have hdrop : l.drop k = m :: l.drop (k + 1) := by
          have hkl : k < l.length := by rw [HN.out]; exact hlt
          rw [List.drop_eq_getElem_cons hkl]
          rw [List.getElem?_eq_getElem hkl] at hmk
          injection hmk with hmk
          rw [hmk]
        have hc := HC.out
        rw [hdrop] at hc
        rw [show checkL o out (m :: l.drop (k + 1)) (64 - bs) = if oneC o out m ≠ 0 then oneC o out m else if 64 - bs - m.bits < 0 then 0x06040042 else checkL o out (l.drop (k + 1)) (64 - bs - m.bits) from rfl] at hc
        have HO := Aside0.mk (rone_any v o m hw1 hw2 out _ (HD.out.below HB.out) (HWF.out m.ix m.sub))
        obtain ⟨q, hq⟩ : ∃ q, oneC o out m = q := ⟨_, rfl⟩
        have hbits : q = 0 → 1 ≤ m.bits ∧ m.bits ≤ 64 := fun e => one_bits (hq.trans e)
        rw [hq] at HO hc
        clear hdrop hmk hq
        by_cases hq0 : q = 0
        · obtain ⟨hb2, hb3⟩ := hbits hq0
          subst hq0
          rw [if_neg (by simp)] at hc
          clear hbits
          by_cases hneg : 64 - bs - m.bits < 0
          · rw [if_pos hneg] at hc
            have hrr : r = 100925506 := by rw [← HR.out, hc]
            subst hrr
            have hgt : 64 < bs + m.bits := by omega
            go_wp2_with (go_at_call 83; refine HO.out.mono ?_; rintro e w1 ⟨rfl, hb⟩; have HB2 := Aside0.mk (HB.out.trans (hb.mono HB.out.size)); obtain ⟨ad', e1, y0', y1', y2'⟩ := HM.out.below HB2.out k m HMK.out; injection e1 with e1; subst e1; clear hb)
            go_ret
            exact ⟨rfl, HB2.out⟩
          · rw [if_neg hneg] at hc
            have HC2 := Aside0.mk hc
            have hle : ¬ 64 < bs + m.bits := by omega
            go_wp2_with (go_at_call 83; refine HO.out.mono ?_; rintro e w1 ⟨rfl, hb⟩; have HB2 := Aside0.mk (HB.out.trans (hb.mono HB.out.size)); obtain ⟨ad', e1, y0', y1', y2'⟩ := HM.out.below HB2.out k m HMK.out; injection e1 with e1; subst e1; clear hb)
            go_roundw
            case rel => exact ⟨k + 1, bs + m.bits, by omega, by go_num, rfl, by omega, by omega, ⟨by rw [HC2.out]; congr 1; omega⟩, HB2⟩
            case measure => simp [intOf]; omega
        · have g1 : (q == 0) = false := by simpa using hq0
          have g2 : (q != 0) = true := by simpa using hq0
          rw [if_pos hq0] at hc
          have hrr : r = q := by rw [← HR.out, hc]
          subst hrr
          clear hbits
          go_wp2_with (go_at_call 83; refine HO.out.mono ?_; rintro e w1 ⟨rfl, hb⟩; have HB2 := Aside0.mk (HB.out.trans (hb.mono HB.out.size)); clear hb)
          go_ret
          exact ⟨rfl, HB2.out⟩
      · obtain rfl : k = n := by omega
        have hrr : r = 0 := by
          rw [← HR.out, HC.out, List.drop_of_length_le (by rw [HN.out]; exact Nat.le_refl _)]
          rfl
        subst hrr
        go_wp2
        go_ret
        exact ⟨rfl, HB.out⟩
end Go.Proofs.YtokebpeplopjhaaDoor.Mp
