/- The document's bus in memory; its ahead, Next, Gone, Copy (printed by gen_hp.py). -/
import Derived.Test.YtnjmohdfnicpdaaHo
namespace Go.Proofs.Ytnjmohdfnicpdaa.Bus
open Go.RowKit Go.Shelf Go.Lib Go.Sort Go.Proofs.Ytnjmohdfnicpdaa.Frm Go.Proofs.Ytnjmohdfnicpdaa.Rng Go.Proofs.YtnjmohdfnicpdaaW.PrintWords Go.Proofs.YtnjmohdfnicpdaaW.PrintMore Go.Proofs.YtnjmohdfnicpdaaW.PrintLast

theorem add_blk (a : Addr) (i : Nat) : (a.add i).block = a.block := by unfold Addr.add; split <;> rfl
theorem rbefore_sn (s t : Sn) (w : World) : Calls Try.prog 52 #[.agg #[.int .u16 s.id, .int .i64 s.len, .int .u8 s.x0, .int .u8 s.x1, .int .u8 s.x2, .int .u8 s.x3, .int .u8 s.x4, .int .u8 s.x5, .int .u8 s.x6, .int .u8 s.x7, .bool s.rem], .agg #[.int .u16 t.id, .int .i64 t.len, .int .u8 t.x0, .int .u8 t.x1, .int .u8 t.x2, .int .u8 t.x3, .int .u8 t.x4, .int .u8 t.x5, .int .u8 t.x6, .int .u8 t.x7, .bool t.rem]] w fun e w' =>
      e = .returned (.bool (bef s.id s.rem t.id t.rem)) ∧ ∃ os, w' = grow w os := rbefore_any s.id s.len s.x0 s.x1 s.x2 s.x3 s.x4 s.x5 s.x6 s.x7 s.rem t.id t.len t.x0 t.x1 t.x2 t.x3 t.x4 t.x5 t.x6 t.x7 t.rem w
set_option maxHeartbeats 2000000 in
set_option maxRecDepth 100000 in
theorem rahead_any (s t : Sn) (w : World) :
    Calls Try.prog 40 #[.agg s.cells.toArray, .agg t.cells.toArray] w fun e w' => e = .returned (.bool (aheadC s t)) ∧ ∃ os, w' = grow w os := by
  obtain ⟨q1, h1⟩ : ∃ q, bef s.id s.rem t.id t.rem = q := ⟨_, rfl⟩
  obtain ⟨q2, h2⟩ : ∃ q, bef t.id t.rem s.id s.rem = q := ⟨_, rfl⟩
  have b1 := rbefore_sn s t
  have b2 := rbefore_sn t s
  rw [h1] at b1
  rw [h2] at b2
  have HA := Aside0.mk (show aheadC s t = (q1 || (!q2 && decide (s.num < t.num))) by unfold aheadC; rw [h1, h2])
  obtain ⟨q, hq⟩ : ∃ q, aheadC s t = q := ⟨_, rfl⟩
  rw [hq] at HA ⊢
  have B1 := Aside0.mk b1
  have B2 := Aside0.mk b2
  clear h1 h2 b1 b2 hq
  have hb0 := two_new1 w (.cells s.cells.toArray 72) (.cells t.cells.toArray 72) 0
  have hb1 := two_new2 w (.cells s.cells.toArray 72) (.cells t.cells.toArray 72) 0
  have hbw : ∃ os, (w.alloc (.cells s.cells.toArray 72)).alloc (.cells t.cells.toArray 72) = grow w os := two_grow w _ _
  change ((w.alloc (Obj.cells s.cells.toArray 72)).alloc (Obj.cells t.cells.toArray 72)).heap[w.heap.size]? = _ at hb0
  change ((w.alloc (Obj.cells s.cells.toArray 72)).alloc (Obj.cells t.cells.toArray 72)).heap[w.heap.size + 1]? = _ at hb1
  have HB0 := Aside0.mk hb0
  have HB1 := Aside0.mk hb1
  have HBW := Aside0.mk hbw
  clear hb0 hb1 hbw
  show Calls Try.prog 40 #[.agg #[.int .i64 s.nd, .int .u16 s.id, .int .i64 s.len, .int .u8 s.x0, .int .u8 s.x1, .int .u8 s.x2, .int .u8 s.x3, .int .u8 s.x4, .int .u8 s.x5, .int .u8 s.x6, .int .u8 s.x7, .bool s.rem, .int .i64 s.num], .agg #[.int .i64 t.nd, .int .u16 t.id, .int .i64 t.len, .int .u8 t.x0, .int .u8 t.x1, .int .u8 t.x2, .int .u8 t.x3, .int .u8 t.x4, .int .u8 t.x5, .int .u8 t.x6, .int .u8 t.x7, .bool t.rem, .int .i64 t.num]] w _
  go_enter Try.func40, Try.ntmps40
  go_wp2_with (fail)
  refine (B1.out _).mono ?_
  rintro e W1 ⟨rfl, hg⟩
  have hc : W1.heap[w.heap.size]? = some (.cells s.cells.toArray 72 (0, 0)) ∧ W1.heap[w.heap.size + 1]? = some (.cells t.cells.toArray 72 (0, 0)) ∧ ∃ os', W1 = grow w os' := by
    obtain ⟨os, rfl⟩ := hg
    obtain ⟨o, ho⟩ := HBW.out
    exact ⟨heap_grow HB0.out os, heap_grow HB1.out os, _, (congrArg (fun x => grow x os) ho).trans (grow_grow _ _ _)⟩
  clear hg
  obtain ⟨hc0, hc1, hcw⟩ := hc
  obtain ⟨f0, f1, f2, f3, f4, f5, f6, f7, f8, f9, f10, f11, f12, f13⟩ := sn_at hc0
  obtain ⟨g0, g1, g2, g3, g4, g5, g6, g7, g8, g9, g10, g11, g12, g13⟩ := sn_at hc1
  have HC0 := Aside0.mk hc0
  have HC1 := Aside0.mk hc1
  have HCW := Aside0.mk hcw
  clear hc0 hc1 hcw HB0 HB1 HBW
  rcases q1 with _ | _
  · go_wp2_with (fail)
    refine (B2.out _).mono ?_
    rintro e W2 ⟨rfl, hg⟩
    have hc : W2.heap[w.heap.size]? = some (.cells s.cells.toArray 72 (0, 0)) ∧ W2.heap[w.heap.size + 1]? = some (.cells t.cells.toArray 72 (0, 0)) ∧ ∃ os', W2 = grow w os' := by
      obtain ⟨os, rfl⟩ := hg
      obtain ⟨o, ho⟩ := HCW.out
      exact ⟨heap_grow HC0.out os, heap_grow HC1.out os, _, (congrArg (fun x => grow x os) ho).trans (grow_grow _ _ _)⟩
    clear hg f0 f1 f2 f3 f4 f5 f6 f7 f8 f9 f10 f11 f12 f13 g0 g1 g2 g3 g4 g5 g6 g7 g8 g9 g10 g11 g12 g13
    obtain ⟨hc0, hc1, hcw⟩ := hc
    obtain ⟨_, _, _, _, _, _, _, _, _, _, _, _, f12, _⟩ := sn_at hc0
    obtain ⟨_, _, _, _, _, _, _, _, _, _, _, _, g12, _⟩ := sn_at hc1
    have HDW := Aside0.mk hcw
    clear hc0 hc1 hcw
    rcases q2 with _ | _
    · by_cases hn : s.num < t.num
      all_goals
        have HQ := Aside0.mk (show q = decide (s.num < t.num) by rw [HA.out]; rfl)
        go_wp2_with (fail)
        go_ret
        refine ⟨?_, HDW.out⟩
        rw [HQ.out]
        simp [hn]
    · go_wp2_with (fail)
      go_ret
      exact ⟨by rw [HA.out]; rfl, HDW.out⟩
  · go_wp2_with (fail)
    go_ret
    exact ⟨by rw [HA.out]; rfl, HCW.out⟩

/-- The document's bus: its block, the row of what waits (read). -/
structure RefAt (w : World) (gm : Nat) (A : Option Addr) (c : Nat) (l : List Sn) (N : Int) : Prop where
  blk : w.heap[gm]? = some (.cells #[.slice A l.length c, .int .i64 N] 49 (0, 0))
  cap : l.length ≤ c
  row : kSn.C w A l.length l
  far : 0 < l.length → ∀ ad, A = some ad → ad.block ≠ gm
  pl : ∀ ad, A = some ad → ad = ⟨ad.block, ad.off, none⟩
theorem C_fr {M : Nat → Prop} {w W : World} {A : Option Addr} {l : List Sn} (h : kSn.C w A l.length l) (hf : Fr M w W) (hb : 0 < l.length → ∀ ad, A = some ad → ¬ M ad.block) : kSn.C W A l.length l := by
  refine ⟨h.1, h.2.1, fun h0 => ?_⟩
  obtain ⟨ad, hA, hc⟩ := h.2.2 h0
  refine ⟨ad, hA, fun j p hj => ?_⟩
  obtain ⟨cs, hcl, hK, hcell⟩ := hc j p hj
  exact ⟨cs, hcl, hK, fun i u hu => hf.cell (hcell i u hu) (by rw [add_blk]; exact hb h0 ad hA)⟩
theorem RefAt.fr {M : Nat → Prop} {w W : World} {gm : Nat} {A : Option Addr} {c : Nat} {l : List Sn} {N : Int} (h : RefAt w gm A c l N) (hf : Fr M w W) (hg : ¬ M gm) (hb : 0 < l.length → ∀ ad, A = some ad → ¬ M ad.block) : RefAt W gm A c l N :=
  ⟨(hf.block gm (Array.getElem?_eq_some_iff.1 h.blk).1 hg).trans h.blk, h.cap, C_fr h.row hf hb, h.far, h.pl⟩
theorem RefAt.below {w W : World} {gm : Nat} {A : Option Addr} {c : Nat} {l : List Sn} {N : Int} (h : RefAt w gm A c l N) (hf : Below w.heap.size w W) : RefAt W gm A c l N := h.fr (Fr.of_below (M := fun _ => False) hf) (fun h => h) (fun _ _ _ h => h)
theorem RefAt.lt {w : World} {gm : Nat} {A : Option Addr} {c : Nat} {l : List Sn} {N : Int} (h : RefAt w gm A c l N) : gm < w.heap.size := (Array.getElem?_eq_some_iff.1 h.blk).1
theorem RefAt.cell0 {w : World} {gm : Nat} {A : Option Addr} {c : Nat} {l : List Sn} {N : Int} (h : RefAt w gm A c l N) : w.cell? ⟨gm, 0, none⟩ = some (.slice A l.length c) := blk_cell h.blk 0
theorem RefAt.cell1 {w : World} {gm : Nat} {A : Option Addr} {c : Nat} {l : List Sn} {N : Int} (h : RefAt w gm A c l N) : w.cell? ⟨gm, 1, none⟩ = some (.int .i64 N) := blk_cell h.blk 1
theorem RefAt.frozen {w : World} {gm : Nat} {A : Option Addr} {c : Nat} {l : List Sn} {N : Int} (h : RefAt w gm A c l N) (j : Nat) : w.frozen? ⟨gm, j, none⟩ = false := blk_frozen h.blk j
/-- What a call turns of the document's bus. -/
structure RTurn (gm : Nat) (A A' : Option Addr) (w w' : World) : Prop where
  fr : Fr (fun k => k = gm) w w'
  own : ∀ ad', A' = some ad' → (∃ ad, A = some ad ∧ ad.block = ad'.block) ∨ w.heap.size ≤ ad'.block
theorem RTurn.refl (gm : Nat) (A : Option Addr) (w : World) : RTurn gm A A w w := ⟨Fr.refl _ _, fun ad h => .inl ⟨ad, h, rfl⟩⟩
theorem RTurn.below {gm : Nat} {A : Option Addr} {w w' : World} (h : Below w.heap.size w w') : RTurn gm A A w w' := ⟨Fr.of_below h, fun ad h => .inl ⟨ad, h, rfl⟩⟩
/-- Where one of them lies. -/
theorem RefAt.cells {w : World} {gm : Nat} {A : Option Addr} {c : Nat} {l : List Sn} {N : Int} (h : RefAt w gm A c l N) {i : Nat} (hi : i < l.length) : ∃ b o, A = some ⟨b, o, none⟩ ∧ CellsAt w b (o + i * 13) (nth l i) := by
  obtain ⟨ad, hA, hc⟩ := h.row.2.2 (by omega)
  obtain ⟨cs, hcl, hK, hcell⟩ := hc i _ (get_nth hi)
  have hK2 : cs = (nth l i).cells := hK
  subst hK2
  obtain ⟨b, o, rfl⟩ : ∃ b o, ad = ⟨b, o, none⟩ := ⟨_, _, h.pl ad hA⟩
  have h1 : ∀ j u, (nth l i).cells[j]? = some u → w.cell? ⟨b, o + i * 13 + j, none⟩ = some u := fun j u hu => by
    have h2 := hcell j u hu
    rw [Addr.add_mid] at h2
    rw [Nat.add_assoc]
    exact h2
  exact ⟨b, o, hA, h1 0 _ rfl, h1 1 _ rfl, h1 2 _ rfl, h1 3 _ rfl, h1 4 _ rfl, h1 5 _ rfl, h1 6 _ rfl, h1 7 _ rfl, h1 8 _ rfl, h1 9 _ rfl, h1 10 _ rfl, h1 11 _ rfl, h1 12 _ rfl⟩
end Go.Proofs.Ytnjmohdfnicpdaa.Bus
