/- A value put into the document's dictionary. The document's bit and Pack. The document's Unpack. The document's Write, and a mapping's. -/
import Derived.Test.YtokebpeplopjhaaDoorY11
import Derived.StillTailTactics
import Derived.Deep.RegionHeld3
namespace Go.Proofs.YtokebpeplopjhaaDoor.Mp
open Go.RowKit Go.Shelf Go.Proofs.YtokebpeplopjhaaDoor.Rng Go.Proofs.YtokebpeplopjhaaDoorW.PrintWords Go.Proofs.YtokebpeplopjhaaDoorW.PrintMore Go.Proofs.YtokebpeplopjhaaDoorW.PrintLast

theorem befC_irr {i s : Int} : ¬ befC i s i s := by unfold befC; omega
theorem srt_uniq {L : List It} (hs : Srt L) {j k : Nat} {x y : It} (hk : L[k]? = some x) (hj : L[j]? = some y) (hne : j ≠ k) : ¬ (y.ix = x.ix ∧ y.sub = x.sub) := by
  rintro ⟨e1, e2⟩
  obtain ⟨hkl, hk⟩ := List.getElem?_eq_some_iff.1 hk
  obtain ⟨hjl, hj⟩ := List.getElem?_eq_some_iff.1 hj
  have hp := List.pairwise_iff_getElem.1 hs
  rcases Nat.lt_or_gt_of_ne hne with h | h
  · have := hp j k hjl hkl h
    rw [hj, hk, e1, e2] at this
    exact befC_irr this
  · have := hp k j hkl hjl h
    rw [hj, hk, e1, e2] at this
    exact befC_irr this
theorem set_mem {L : List It} {k : Nat} {x' y : It} (h : y ∈ L.set k x') : y = x' ∨ ∃ j, j ≠ k ∧ L[j]? = some y := by
  obtain ⟨j, hj⟩ := List.getElem?_of_mem h
  rw [List.getElem?_set] at hj
  split at hj
  · rename_i e
    split at hj
    · injection hj with hj
      exact .inl hj.symm
    · cases hj
  · rename_i e
    exact .inr ⟨j, fun h => e h.symm, hj⟩
theorem mem_set_ne {L : List It} {k j : Nat} {x' y : It} (hj : L[j]? = some y) (hne : j ≠ k) : y ∈ L.set k x' := by
  have : (L.set k x')[j]? = some y := by rw [List.getElem?_set_ne (fun h => hne h.symm)]; exact hj
  exact List.mem_of_getElem? this
theorem mem_set_eq {L : List It} {k : Nat} {x x' : It} (hk : L[k]? = some x) : x' ∈ L.set k x' := by
  have hl := (List.getElem?_eq_some_iff.1 hk).1
  have : (L.set k x')[k]? = some x' := by rw [List.getElem?_set_self hl]
  exact List.mem_of_getElem? this
theorem RefOf.put {L : List It} {d : DD} {x : It} (b : List Int) {k : Nat} (h : RefOf L d) (hs : Srt L) (hk : L[k]? = some x) : RefOf (L.set k { x with val := b }) (d.put x b) := by
  refine ⟨fun y hy => ?_, fun i s y hy => ?_, fun i => ?_⟩
  · rcases set_mem hy with rfl | ⟨j, hne, hj⟩
    · exact if_pos ⟨rfl, rfl⟩
    · exact (if_neg (srt_uniq hs hk hj hne)).trans (h.it y (List.mem_of_getElem? hj))
  · have hy' : (if i = x.ix ∧ s = x.sub then some ({ x with val := b } : It) else d.D i s) = some y := hy
    by_cases e : i = x.ix ∧ s = x.sub
    · rw [if_pos e] at hy'
      injection hy' with hy'
      subst hy'
      exact ⟨mem_set_eq hk, e.1.symm, e.2.symm⟩
    · rw [if_neg e] at hy'
      obtain ⟨h1, h2, h3⟩ := h.ex i s y hy'
      obtain ⟨j, hj⟩ := List.getElem?_of_mem h1
      refine ⟨mem_set_ne hj (fun ej => ?_), h2, h3⟩
      rw [ej, hk] at hj
      injection hj with hj
      exact e ⟨by rw [← h2, hj], by rw [← h3, hj]⟩
  · show 0 < d.S i ↔ _
    rw [h.n i]
    constructor
    · rintro ⟨y, hy, e⟩
      obtain ⟨j, hj⟩ := List.getElem?_of_mem hy
      by_cases ej : j = k
      · rw [ej, hk] at hj
        injection hj with hj
        exact ⟨_, mem_set_eq hk, by rw [← e, ← hj]⟩
      · exact ⟨y, mem_set_ne hj ej, e⟩
    · rintro ⟨y, hy, e⟩
      rcases set_mem hy with rfl | ⟨j, _, hj⟩
      · exact ⟨x, List.mem_of_getElem? hk, e⟩
      · exact ⟨y, List.mem_of_getElem? hj, e⟩
theorem Srt.set {L : List It} {x : It} (b : List Int) {k : Nat} (hs : Srt L) (hk : L[k]? = some x) : Srt (L.set k { x with val := b }) := by
  obtain ⟨hkl, hk⟩ := List.getElem?_eq_some_iff.1 hk
  have hp := List.pairwise_iff_getElem.1 hs
  refine List.pairwise_iff_getElem.2 fun i j hi hj hij => ?_
  rw [List.length_set] at hi hj
  have h1 := hp i j hi hj hij
  rw [List.getElem_set, List.getElem_set]
  split <;> split
  · omega
  · rename_i e _
    subst e
    rw [hk] at h1
    exact h1
  · rename_i _ e
    subst e
    rw [hk] at h1
    exact h1
  · exact h1
/-- Each byte that a block holds, in place, stays. -/
def Keep8 (w w' : World) : Prop := ∀ p y, w.cell? p = some (.int .u8 y) → w'.cell? p = some (.int .u8 y)
theorem Keep8.refl (w : World) : Keep8 w w := fun _ _ h => h
theorem Keep8.trans {a b c : World} (h : Keep8 a b) (k : Keep8 b c) : Keep8 a c := fun p y e => k p y (h p y e)
theorem Keep8.below {w w' : World} (h : Below w.heap.size w w') : Keep8 w w' := fun _ _ e => pw_cell_below h e
theorem ArgV.keep {w w' : World} {v : Value} {l : List Int} (h : ArgV w v l) (hk : Keep8 w w') : ArgV w' v l := by
  obtain ⟨A, c, e, q1, q2⟩ := h
  refine ⟨A, c, e, ⟨⟨q1.rd.1, fun hn => ?_⟩, q1.byt, q1.le, q1.cap⟩, q2⟩
  obtain ⟨ad, hA, hc⟩ := q1.rd.2 hn
  exact ⟨ad, hA, fun j hj => hk _ _ (hc j hj)⟩
theorem blk_sets {t : TypeId} {g : Nat} : ∀ (vs : List Value) (o : Nat) {w : World} {cells : Array Value}, w.heap[g]? = some (.cells cells t (0, 0)) → ∃ cells', (w.setCells g o vs).heap[g]? = some (.cells cells' t (0, 0))
  | [], _, _, cells, h => ⟨cells, h⟩
  | v :: r, o, _, _, h => blk_sets r (o + 1) (Go.Proofs.YtokebpeplopjhaaDoorW.PrintWords.blk_put h o v rfl)
theorem ItsP.set {P : Value → List Int → Prop} {L : List It} {cs : List (List Value)} (h : ItsP P L cs) {k : Nat} {y : It} {v1 v2 v3 v4 : Value} (h1 : P v1 y.df) (h2 : P v2 y.lo) (h3 : P v3 y.hi) (h4 : P v4 y.val) : ItsP P (L.set k y) (cs.set k (y.toEn.cells v1 v2 v3 ++ [v4])) :=
  ⟨by simp [h.len], fun j x hj => by
    by_cases e : k = j
    · subst e
      have hl : k < L.length := by
        have := (List.getElem?_eq_some_iff.1 hj).1
        rwa [List.length_set] at this
      rw [List.getElem?_set_self hl] at hj
      injection hj with hj
      subst hj
      exact ⟨v1, v2, v3, v4, by rw [List.getElem?_set_self (by rw [h.len]; exact hl)], h1, h2, h3, h4⟩
    · rw [List.getElem?_set_ne e] at hj
      obtain ⟨u1, u2, u3, u4, e1, hh⟩ := h.at_ j x hj
      exact ⟨u1, u2, u3, u4, by rw [List.getElem?_set_ne e]; exact e1, hh⟩⟩
theorem ArgN.keep {g : Nat} {w w' : World} {v : Value} {l : List Int} (h : ArgN g w v l) (hk : Keep8 w w') : ArgN g w' v l := by
  obtain ⟨A, c, e, q1, q2, q3⟩ := h
  obtain ⟨A', c', e', r1, _⟩ := ArgV.keep ⟨A, c, e, q1, q2⟩ hk
  subst e
  injection e' with e1 e2 e3
  subst e1 e3
  exact ⟨A, c, rfl, r1, q2, q3⟩
/-- The block of a dictionary's row of items. -/
def RowAt (w : World) (g gA : Nat) : Prop := ∀ A n c u t z, w.heap[g]? = some (.cells #[.slice A n c, u] t z) → ∀ ad, A = some ad → ad.block = gA
/-- The store of an item, and of the number of changes, plainly. -/
theorem rput_fin {B g gA n c' i : Nat} {L : List It} {x : It} {N M : Int} {cs : List (List Value)} {w W : World} {A1 A2 A3 A4 A5 : Option Addr} {a1 a2 a3 a4 a5 : Nat} {b : List Int} (h0 : B ≤ g) (hB2 : B ≤ gA) (hne : gA ≠ g) (hN : L.length = n) (hl : n ≤ 1024) (hlc : n ≤ c') (hx : L[i]? = some x)
    (hcs : cs[i]? = some (x.cells (.slice A1 x.df.length a1) (.slice A2 x.lo.length a2) (.slice A3 x.hi.length a3) ++ [.slice A4 x.val.length a4]))
    (hC : kI.C W (some ⟨gA, 0, none⟩) n cs) (hI : ItsP (ArgN g W) L cs) (hI2 : ItsP (ArgN gA W) L cs) (hb : Below w.heap.size w W)
    (hg : W.heap[g]? = some (.cells #[.slice (some ⟨gA, 0, none⟩) n c', .int .i64 N] 149 (0, 0))) {cells : Array Value} (hblk : W.heap[gA]? = some (.cells cells 151 (0, 0)))
    (ha : ArgV W (.slice A5 b.length a5) b) (ho : ∀ k, (Value.slice A5 b.length a5).ownBlock = some k → k ≠ g ∧ k ≠ gA) {W' : World}
    (hW : (W.setCells gA (i * 11) (x.cells (.slice A1 x.df.length a1) (.slice A2 x.lo.length a2) (.slice A3 x.hi.length a3) ++ [.slice A5 b.length a5])).setCell ⟨g, 1, none⟩ (.int .i64 M) = W') :
    RefB B W' g (L.set i { x with val := b }) M ∧ Fr (fun k => k = g ∨ k = gA) w W' ∧ Keep8 w W' ∧ RowAt W' g gA := by
  have hil := (List.getElem?_eq_some_iff.1 hx).1
  obtain ⟨vs, hvs⟩ : ∃ vs, x.cells (.slice A1 x.df.length a1) (.slice A2 x.lo.length a2) (.slice A3 x.hi.length a3) ++ [.slice A5 b.length a5] = vs := ⟨_, rfl⟩
  have hvl : vs.length = 11 := by rw [← hvs]; rfl
  obtain ⟨ad', e', hc⟩ := hC.2.2 (by omega)
  injection e' with e'
  subst e'
  have hold : ∀ (j : Nat) (p : List Value), cs[j]? = some p → ∀ (t : Nat) u, p[t]? = some u → W.cell? ⟨gA, j * 11 + t, none⟩ = some u := by
    intro j p hj t u hu
    obtain ⟨cc, -, ⟨rfl, -, -⟩, hcell⟩ := hc j p hj
    rw [← show (⟨gA, 0, none⟩ : Addr).add (j * 11 + t) = ⟨gA, j * 11 + t, none⟩ from add_plain _ _]
    exact hcell t u hu
  have hoi := hold i _ hcs
  rw [hvs] at hW
  have hin : ∀ (t : Nat) u, vs[t]? = some u → (W.setCells gA (i * 11) vs).cell? ⟨gA, i * 11 + t, none⟩ = some u := by
    intro t u hu
    obtain ⟨htl, hu⟩ := List.getElem?_eq_some_iff.1 hu
    rw [← hu]
    refine World.cell?_setCells_in gA vs (i * 11) W (fun j hj => ?_) t htl
    have hj11 : j < (x.cells (.slice A1 x.df.length a1) (.slice A2 x.lo.length a2) (.slice A3 x.hi.length a3) ++ [.slice A4 x.val.length a4] : List Value).length := by rw [show (x.cells (.slice A1 x.df.length a1) (.slice A2 x.lo.length a2) (.slice A3 x.hi.length a3) ++ [.slice A4 x.val.length a4] : List Value).length = 11 from rfl]; omega
    rw [hoi j _ (List.getElem?_eq_getElem hj11)]
    rfl
  have hk5 : Keep8 W (W.setCells gA (i * 11) vs) := by
    intro p y hp
    by_cases hr : p.block = gA ∧ p.spot = none ∧ i * 11 ≤ p.off ∧ p.off < i * 11 + 11
    · obtain ⟨r1, r2, r3, r4⟩ := hr
      obtain ⟨t, ht⟩ : ∃ t, p.off = i * 11 + t := ⟨p.off - i * 11, by omega⟩
      have hpe : p = ⟨gA, i * 11 + t, none⟩ := by cases p; simp_all
      have ht11 : t < 11 := by omega
      rw [hpe] at hp ⊢
      have k1 : ∀ (u : Value), (x.cells (.slice A1 x.df.length a1) (.slice A2 x.lo.length a2) (.slice A3 x.hi.length a3) ++ [.slice A4 x.val.length a4])[t]? = some u → u = .int .u8 y := fun u hu => by
        have := hoi t u hu
        rw [hp] at this
        injection this with this
        exact this.symm
      refine hin t _ ?_
      rw [← hvs]
      match t, ht11, k1 with
      | 0, _, k1 => have := k1 _ rfl; exact congrArg some this
      | 1, _, k1 => have := k1 _ rfl; exact congrArg some this
      | 2, _, k1 => have := k1 _ rfl; cases this
      | 3, _, k1 => have := k1 _ rfl; exact congrArg some this
      | 4, _, k1 => have := k1 _ rfl; exact congrArg some this
      | 5, _, k1 => have := k1 _ rfl; cases this
      | 6, _, k1 => have := k1 _ rfl; cases this
      | 7, _, k1 => have := k1 _ rfl; cases this
      | 8, _, k1 => have := k1 _ rfl; exact congrArg some this
      | 9, _, k1 => have := k1 _ rfl; exact congrArg some this
      | 10, _, k1 => have := k1 _ rfl; cases this
    · rw [World.cell?_setCells_out gA vs (i * 11) W p (fun h1 h2 => by
        by_cases h3 : p.off < i * 11
        · exact .inl h3
        · refine .inr ?_
          rw [hvl]
          apply Nat.le_of_not_lt
          intro h4
          exact hr ⟨h1, h2, by omega, h4⟩)]
      exact hp
  have fr5 : Fr (fun k => k = gA) W (W.setCells gA (i * 11) vs) := fr_cells vs (i * 11) W
  obtain ⟨cells', hblk5⟩ := blk_sets vs (i * 11) hblk
  have hg5 := (fr5.block g (blk_lt hg) (fun e => hne (Eq.symm e))).trans hg
  generalize hW5 : W.setCells gA (i * 11) vs = W5 at hW hin hk5 fr5 hblk5 hg5
  have fr6 : Fr (fun k => k = g) W5 W' := hW ▸ Fr.setCell (M := fun k => k = g) W5 ⟨g, 1, none⟩ _ (.inl rfl)
  have hk6 : Keep8 W5 W' := by
    intro p y hp
    rw [← hW, World.cell?_setCell_other _ _ _ _ (fun e => ?_)]
    · exact hp
    · rw [← e, Go.Proofs.YtokebpeplopjhaaDoorW.PrintWords.blk_cell hg5 1] at hp
      injection hp with hp
      cases hp
  have hkW : Keep8 W W' := hk5.trans hk6
  have hg6 : W'.heap[g]? = some (.cells #[.slice (some ⟨gA, 0, none⟩) n c', .int .i64 M] 149 (0, 0)) := by
    have := Go.Proofs.YtokebpeplopjhaaDoorW.PrintWords.blk_put hg5 1 (.int .i64 M) rfl
    rw [hW] at this
    simpa using this
  have hblk6 := (fr6.block gA (blk_lt hblk5) hne).trans hblk5
  obtain ⟨u1, u2, u3, u4, ecs, p1, p2, p3, -⟩ := hI.at_ i x hx
  obtain ⟨_, _, _, _, ecs2, r1, r2, r3, -⟩ := hI2.at_ i x hx
  rw [hcs] at ecs ecs2
  have hes := Option.some.inj ecs
  have hes2 := Option.some.inj ecs2
  have l1 : ∀ {z1 z2 z3 z4 : Value}, x.cells (.slice A1 x.df.length a1) (.slice A2 x.lo.length a2) (.slice A3 x.hi.length a3) ++ [.slice A4 x.val.length a4] = x.cells z1 z2 z3 ++ [z4] → z1 = .slice A1 x.df.length a1 ∧ z2 = .slice A2 x.lo.length a2 ∧ z3 = .slice A3 x.hi.length a3 := by
    intro z1 z2 z3 z4 h
    simp only [En.cells, List.cons_append, List.nil_append, List.cons.injEq] at h
    exact ⟨h.2.2.2.2.2.1.symm, h.2.2.2.2.2.2.1.symm, h.2.2.2.2.2.2.2.1.symm⟩
  obtain ⟨rfl, rfl, rfl⟩ := l1 hes
  obtain ⟨rfl, rfl, rfl⟩ := l1 hes2
  have hag : ArgN g W' (.slice A5 b.length a5) b := (argn_at ha (fun k hk _ => (ho k hk).1)).keep hkW
  have haA : ArgN gA W' (.slice A5 b.length a5) b := (argn_at ha (fun k hk _ => (ho k hk).2)).keep hkW
  refine ⟨⟨some ⟨gA, 0, none⟩, c', cs.set i vs, h0, ?_, ⟨?_, ?_, fun _ => ⟨_, rfl, fun j p hj => ?_⟩⟩, ?_, ?_, ?_, fun ad e => ?_⟩, ?_, ?_, ?_⟩
  · rw [List.length_set, hN]
    exact hg6
  · rw [List.length_set, List.length_set, hC.1, hN]
  · rw [List.length_set, hN]
    exact hC.2.1
  · have hpc : p.length = 11 ∧ (∀ u ∈ p, u.oneCell' = true) ∧ ∀ (t : Nat) u, p[t]? = some u → W'.cell? ⟨gA, j * 11 + t, none⟩ = some u := by
      by_cases e : i = j
      · subst e
        have hlc2 : i < cs.length := (List.getElem?_eq_some_iff.1 hcs).1
        rw [List.getElem?_set_self hlc2] at hj
        injection hj with hj
        subst hj
        refine ⟨hvl, ?_, fun t u hu => fr6.cell (hin t u hu) hne⟩
        rw [← hvs]
        intro u hu
        simp [En.cells] at hu
        rcases hu with rfl | rfl | rfl | rfl | rfl | rfl | rfl | rfl | rfl | rfl | rfl <;> rfl
      · rw [List.getElem?_set_ne e] at hj
        obtain ⟨cc, hccl, ⟨rfl, h11, hone⟩, -⟩ := hc j p hj
        refine ⟨h11, hone, fun t u hu => fr6.cell ?_ hne⟩
        have ht : t < 11 := by rw [← h11]; exact (List.getElem?_eq_some_iff.1 hu).1
        rw [← hW5, World.cell?_setCells_out gA vs (i * 11) W _ (fun _ _ => ?_)]
        · exact hold j _ hj t u hu
        · rw [hvl]
          show j * 11 + t < i * 11 ∨ i * 11 + 11 ≤ j * 11 + t
          omega
    refine ⟨p, hpc.1, ⟨rfl, hpc.1, hpc.2.1⟩, fun t u hu => ?_⟩
    rw [show (⟨gA, 0, none⟩ : Addr).add (j * kI.sz + t) = ⟨gA, j * 11 + t, none⟩ from add_plain _ _]
    exact hpc.2.2 t u hu
  · rw [List.length_set, hN]; exact hl
  · rw [List.length_set, hN]; exact hlc
  · rw [← hvs]
    exact (hI.imp fun _ _ h => h.keep hkW).set (y := { x with val := b }) (p1.keep hkW) (p2.keep hkW) (p3.keep hkW) hag
  · injection e with e
    subst e
    refine ⟨hB2, hne, ⟨rfl, cells', hblk6⟩, ?_⟩
    rw [← hvs]
    exact (hI2.imp fun _ _ h => h.keep hkW).set (y := { x with val := b }) (r1.keep hkW) (r2.keep hkW) (r3.keep hkW) haA
  · exact (Fr.of_below hb).trans ((fr5.mono (fun k hk => .inr hk)).trans (fr6.mono (fun k hk => .inl hk)))
  · exact (Keep8.below hb).trans hkW
  · intro A n' c2 u t z hh ad hA
    rw [hg6] at hh
    injection hh with hh
    injection hh with hh _ _
    simp only [Array.mk.injEq, List.cons.injEq, Value.slice.injEq] at hh
    rw [← hh.1.1] at hA
    injection hA with hA
    rw [← hA]
set_option maxRecDepth 100000 in
set_option maxHeartbeats 2000000 in
theorem rput_any (B g gZ : Nat) (L : List It) (N : Int) (i : Nat) (x : It) (A : Option Addr) (c : Nat) (b : List Int) (w : World) (h : RefB B w g L N) (hrow : RowAt w g gZ) (hx : L[i]? = some x) (hb : ArgV w (.slice A b.length c) b) :
    Calls Tryd.prog 126 #[.pointer (some ⟨g, 0, none⟩), .int .i64 i, .slice A b.length c] w fun e w' => e = .returned (.tuple #[]) ∧ RefB B w' g (L.set i { x with val := b }) (IntKind.i64.wrap (N + 1)) ∧ Fr (fun k => k = g ∨ k = gZ) w w' ∧ Keep8 w w' ∧ RowAt w' g gZ := by
  obtain ⟨A', c', cs, h0, hg, hC, hl, hlc, hI, hA'⟩ := h
  have hil := (List.getElem?_eq_some_iff.1 hx).1
  obtain ⟨v1, v2, v3, v4, hcs, p1, p2, p3, p4⟩ := hI.at_ i x hx
  obtain ⟨ad, rfl, hc⟩ := hC.2.2 (by omega)
  obtain ⟨hB2, hne, ⟨had, cells, hblk⟩, hI2⟩ := hA' ad rfl
  obtain ⟨gA, rfl⟩ : ∃ gA : Nat, ad = ⟨gA, 0, none⟩ := ⟨ad.block, had⟩
  simp only at hB2 hne hblk hI2
  obtain rfl : gA = gZ := hrow _ _ _ _ _ _ hg _ rfl
  clear hrow
  obtain ⟨cc, hcl, ⟨rfl, -, -⟩, hcell⟩ := hc i _ hcs
  obtain ⟨A1, a1, rfl, -⟩ := p1
  obtain ⟨A2, a2, rfl, -⟩ := p2
  obtain ⟨A3, a3, rfl, -⟩ := p3
  obtain ⟨A4, a4, rfl, -⟩ := p4
  have hY : ∀ X, Below w.heap.size w X → (X.cell? ⟨gA, i * 11, none⟩ = some (.int .u16 x.ix) ∧ X.cell? ⟨gA, i * 11 + 1, none⟩ = some (.int .u8 x.sub) ∧ X.cell? ⟨gA, i * 11 + 2, none⟩ = some (.string x.name) ∧ X.cell? ⟨gA, i * 11 + 3, none⟩ = some (.int .u8 x.ty) ∧ X.cell? ⟨gA, i * 11 + 4, none⟩ = some (.int .u8 x.rt) ∧ X.cell? ⟨gA, i * 11 + 5, none⟩ = some (.slice A1 x.df.length a1) ∧ X.cell? ⟨gA, i * 11 + 6, none⟩ = some (.slice A2 x.lo.length a2) ∧ X.cell? ⟨gA, i * 11 + 7, none⟩ = some (.slice A3 x.hi.length a3) ∧ X.cell? ⟨gA, i * 11 + 8, none⟩ = some (.int .u8 x.tag) ∧ X.cell? ⟨gA, i * 11 + 9, none⟩ = some (.int .u8 x.grp) ∧ X.cell? ⟨gA, i * 11 + 10, none⟩ = some (.slice A4 x.val.length a4)) := by
    intro X hX
    have f : ∀ (j : Nat) (u : Value), (x.cells (.slice A1 x.df.length a1) (.slice A2 x.lo.length a2) (.slice A3 x.hi.length a3) ++ [.slice A4 x.val.length a4])[j]? = some u → X.cell? ⟨gA, i * 11 + j, none⟩ = some u := fun j u hu => pw_cell_below hX (by rw [← show (⟨gA, 0, none⟩ : Addr).add (i * 11 + j) = ⟨gA, i * 11 + j, none⟩ from add_plain _ _]; exact hcell j u hu)
    exact ⟨f 0 _ rfl, f 1 _ rfl, f 2 _ rfl, f 3 _ rfl, f 4 _ rfl, f 5 _ rfl, f 6 _ rfl, f 7 _ rfl, f 8 _ rfl, f 9 _ rfl, f 10 _ rfl⟩
  obtain ⟨_, _, e0, q1, q2⟩ := hb
  injection e0 with e1 e2 e3
  subst e1 e3
  obtain ⟨n, hn⟩ : ∃ n, L.length = n := ⟨_, rfl⟩
  rw [hn] at hg hl hlc hC hil
  have HQ := Aside0.mk (And.intro q1 q2)
  have HY := Aside0.mk hY
  have HG := Aside0.mk hg
  have HC := Aside0.mk hC
  have HI := Aside0.mk (And.intro hI hI2)
  have HX := Aside0.mk hx
  have HCS := Aside0.mk hcs
  have HBK := Aside0.mk hblk
  have HN := Aside0.mk hn
  have hgl : g < w.heap.size := blk_lt hg
  have hgal : gA < w.heap.size := blk_lt hblk
  have g0 : w.cell? ⟨g, 0, none⟩ = some (.slice (some ⟨gA, 0, none⟩) n c') := Go.Proofs.YtokebpeplopjhaaDoorW.PrintWords.blk_cell hg 0
  obtain ⟨y0, y1, y2, y3, y4, y5, y6, y7, y8, y9, y10⟩ := hY w (Below.refl _ _)
  have hi1 : (i : Int) < (n : Int) := by omega
  have hb0 : ∀ o, Below w.heap.size w (w.alloc o) := fun o => below_alloc (Below.refl _ _) _
  clear hY q1 q2 hg hC hI hI2 hx hcs hblk hn hcell hcl hc hA' had e2
  go_enter Tryd.func126, Tryd.ntmps126
  go_wp2_with (go_at_call 124; go_loud (refine (rown_any _ _ _ _ (HQ.out.1.below (hb0 _)) HQ.out.2).mono ?_; rintro e w2 ⟨v5, rfl, ha, ho, hb2⟩; obtain ⟨A5, a5, rfl, ha'⟩ := ha; have HA := Aside0.mk (show ArgV w2 (.slice A5 b.length a5) b from ⟨_, _, rfl, ha'⟩); have HO := Aside0.mk ho; have HB2 := Aside0.mk hb2; have HRW := Aside0.mk (blk_below (blk_new w _) hb2); have hrf := Go.Proofs.YtokebpeplopjhaaDoorW.PrintWords.blk_frozen HRW.out 10; have hrc := Go.Proofs.YtokebpeplopjhaaDoorW.PrintWords.blk_cell HRW.out 10; clear ha' ho hb2))
  have hrow3 := Go.Proofs.YtokebpeplopjhaaDoorW.PrintWords.blk_put HRW.out 10 (.slice A5 b.length a5) rfl
  simp only [List.setIfInBounds_toArray, List.set_cons_succ, List.set_cons_zero] at hrow3
  have hb3 : Below w.heap.size w (w2.setCell ⟨w.heap.size, 10, none⟩ (.slice A5 b.length a5)) := (below_step (hb0 _) HB2.out).setCell (Nat.le_refl _) _
  have ha3 : ArgV (w2.setCell ⟨w.heap.size, 10, none⟩ (.slice A5 b.length a5)) (.slice A5 b.length a5) b := by
    have h1 := HO.out
    refine ((argn_at (g := w.heap.size) HA.out (fun k hk _ e => ?_)).set (Fr.setCell (M := fun k => k = w.heap.size) _ _ _ (.inl rfl))).argv
    have := h1 k hk
    simp at this
    omega
  have ho3 : ∀ k, (Value.slice A5 b.length a5).ownBlock = some k → w.heap.size < k := fun k hk => by
    have := HO.out k hk
    simp at this
    omega
  generalize w2.setCell ⟨w.heap.size, 10, none⟩ (.slice A5 b.length a5) = W3 at hrow3 hb3 ha3 ⊢
  have HR3 := Aside0.mk hrow3
  have HB3 := Aside0.mk hb3
  have HA3 := Aside0.mk ha3
  have HO3 := Aside0.mk ho3
  clear hrf hrc y0 y1 y2 y3 y4 y5 y6 y7 y8 y9 y10 g0 hb0
  have g3 : W3.drew.cell? ⟨g, 0, none⟩ = some (.slice (some ⟨gA, 0, none⟩) n c') := Go.Proofs.YtokebpeplopjhaaDoorW.PrintWords.blk_cell (blk_below HG.out hb3) 0
  have d0 : W3.drew.cell? ⟨w.heap.size, 0, none⟩ = _ := Go.Proofs.YtokebpeplopjhaaDoorW.PrintWords.blk_cell hrow3 0
  have d1 : W3.drew.cell? ⟨w.heap.size, 1, none⟩ = _ := Go.Proofs.YtokebpeplopjhaaDoorW.PrintWords.blk_cell hrow3 1
  have d2 : W3.drew.cell? ⟨w.heap.size, 2, none⟩ = _ := Go.Proofs.YtokebpeplopjhaaDoorW.PrintWords.blk_cell hrow3 2
  have d3 : W3.drew.cell? ⟨w.heap.size, 3, none⟩ = _ := Go.Proofs.YtokebpeplopjhaaDoorW.PrintWords.blk_cell hrow3 3
  have d4 : W3.drew.cell? ⟨w.heap.size, 4, none⟩ = _ := Go.Proofs.YtokebpeplopjhaaDoorW.PrintWords.blk_cell hrow3 4
  have d5 : W3.drew.cell? ⟨w.heap.size, 5, none⟩ = _ := Go.Proofs.YtokebpeplopjhaaDoorW.PrintWords.blk_cell hrow3 5
  have d6 : W3.drew.cell? ⟨w.heap.size, 6, none⟩ = _ := Go.Proofs.YtokebpeplopjhaaDoorW.PrintWords.blk_cell hrow3 6
  have d7 : W3.drew.cell? ⟨w.heap.size, 7, none⟩ = _ := Go.Proofs.YtokebpeplopjhaaDoorW.PrintWords.blk_cell hrow3 7
  have d8 : W3.drew.cell? ⟨w.heap.size, 8, none⟩ = _ := Go.Proofs.YtokebpeplopjhaaDoorW.PrintWords.blk_cell hrow3 8
  have d9 : W3.drew.cell? ⟨w.heap.size, 9, none⟩ = _ := Go.Proofs.YtokebpeplopjhaaDoorW.PrintWords.blk_cell hrow3 9
  have d10 : W3.drew.cell? ⟨w.heap.size, 10, none⟩ = _ := Go.Proofs.YtokebpeplopjhaaDoorW.PrintWords.blk_cell hrow3 10
  clear hrow3 hb3 ha3 ho3
  go_still_tail 7, (by kernel_rfl)
  change wpList _ _ _ _ _ W3.drew
  have hblk4 : W3.drew.heap[gA]? = some (.cells cells 151 (0, 0)) := show W3.heap[gA]? = _ from blk_below HBK.out HB3.out
  have hg4 : W3.drew.heap[g]? = some (.cells #[.slice (some ⟨gA, 0, none⟩) n c', .int .i64 N] 149 (0, 0)) := show W3.heap[g]? = _ from blk_below HG.out HB3.out
  have hb4 : Below w.heap.size w W3.drew := below_drew HB3.out
  have ha4 : ArgV W3.drew (.slice A5 b.length a5) b := HA3.out.below (below_drew (Below.refl _ _))
  clear g3 d0 d1 d2 d3 d4 d5 d6 d7 d8 d9 d10 HR3 HB3 HA3
  generalize W3.drew = W4 at hblk4 hg4 hb4 ha4 ⊢
  obtain ⟨y0, y1, y2, y3, y4, y5, y6, y7, y8, y9, y10⟩ := HY.out W4 hb4
  have f0 := Go.Proofs.YtokebpeplopjhaaDoorW.PrintWords.blk_frozen hblk4 (i * 11)
  have f1 := Go.Proofs.YtokebpeplopjhaaDoorW.PrintWords.blk_frozen hblk4 (i * 11 + 1)
  have f2 := Go.Proofs.YtokebpeplopjhaaDoorW.PrintWords.blk_frozen hblk4 (i * 11 + 2)
  have f3 := Go.Proofs.YtokebpeplopjhaaDoorW.PrintWords.blk_frozen hblk4 (i * 11 + 3)
  have f4 := Go.Proofs.YtokebpeplopjhaaDoorW.PrintWords.blk_frozen hblk4 (i * 11 + 4)
  have f5 := Go.Proofs.YtokebpeplopjhaaDoorW.PrintWords.blk_frozen hblk4 (i * 11 + 5)
  have f6 := Go.Proofs.YtokebpeplopjhaaDoorW.PrintWords.blk_frozen hblk4 (i * 11 + 6)
  have f7 := Go.Proofs.YtokebpeplopjhaaDoorW.PrintWords.blk_frozen hblk4 (i * 11 + 7)
  have f8 := Go.Proofs.YtokebpeplopjhaaDoorW.PrintWords.blk_frozen hblk4 (i * 11 + 8)
  have f9 := Go.Proofs.YtokebpeplopjhaaDoorW.PrintWords.blk_frozen hblk4 (i * 11 + 9)
  have f10 := Go.Proofs.YtokebpeplopjhaaDoorW.PrintWords.blk_frozen hblk4 (i * 11 + 10)
  have HG4 := Aside0.mk hg4
  have HBK4 := Aside0.mk hblk4
  have HB4 := Aside0.mk hb4
  have HA4 := Aside0.mk ha4
  have g1 : W4.cell? ⟨g, 1, none⟩ = some (.int .i64 N) := Go.Proofs.YtokebpeplopjhaaDoorW.PrintWords.blk_cell hg4 1
  have g2 : W4.frozen? ⟨g, 1, none⟩ = false := Go.Proofs.YtokebpeplopjhaaDoorW.PrintWords.blk_frozen hg4 1
  clear hblk4 hg4 hb4 ha4
  go_wp2
  go_end0
  have ew : wrap64 (N + 1) = IntKind.i64.wrap (N + 1) := (i64_w _).symm
  rw [ew]
  exact ⟨rfl, rput_fin h0 hB2 hne HN.out hl hlc HX.out HCS.out (Kd.C_below HC.out HB4.out) (HI.out.1.imp fun _ _ h => h.below HB4.out) (HI.out.2.imp fun _ _ h => h.below HB4.out) HB4.out HG4.out HBK4.out HA4.out (fun k hk => by have := HO3.out k hk; omega) rfl⟩
end Go.Proofs.YtokebpeplopjhaaDoor.Mp
namespace Go.Proofs.YtokebpeplopjhaaDoor.Mp
open Go.RowKit Go.Shelf Go.Proofs.YtokebpeplopjhaaDoor.Rng Go.Proofs.YtokebpeplopjhaaDoorW.PrintWords Go.Proofs.YtokebpeplopjhaaDoorW.PrintMore Go.Proofs.YtokebpeplopjhaaDoorW.PrintLast

theorem and_bit2 {x : Int} (h : 0 ≤ x ∧ x < 256) (k : Nat) : bits .and .u8 (x / 2 ^ (k % 8)) 1 = x / 2 ^ (k % 8) % 2 := by
  have h2 : (0 : Int) < 2 ^ (k % 8) := Int.pow_pos (by decide)
  exact Num.and_one _ ⟨Int.ediv_nonneg h.1 (Int.le_of_lt h2), Int.lt_of_le_of_lt (Int.ediv_le_self _ h.1) h.2⟩
theorem rd_cell {w : World} {A : Option Addr} {zs : List Int} (h : Rd w A zs) {j : Nat} (hj : j < zs.length) : ∃ ad, A = some ad ∧ w.cell? (ad.add j) = some (.int .u8 (zs[j]?.getD 0)) := by
  obtain ⟨ad, hA, hc⟩ := h.2 (by omega)
  exact ⟨ad, hA, hc j hj⟩
set_option maxRecDepth 100000 in
set_option maxHeartbeats 1000000 in
theorem rbit_any (A : Option Addr) (n c : Nat) (zs : List Int) (k : Nat) (w : World) (h : Rd w A zs) (hb : Byt zs) (hn : zs.length = n) (hk : k / 8 < n) (h8 : k < 1000000) :
    Calls Tryd.prog 85 #[.slice A n c, .int .i64 k] w fun e w' => e = .returned (.int .u8 (bit zs k)) ∧ w' = w := by
  obtain ⟨ad, rfl, hc⟩ := rd_cell h (j := k / 8) (by omega)
  have hkb := hb (zs[k / 8]?.getD 0) (by rw [List.getElem?_eq_getElem (by omega)]; exact List.getElem_mem _)
  unfold bit
  generalize zs[k / 8]?.getD 0 = x at hc hkb ⊢
  have e1 : ((k : Int) / 8).toNat = k / 8 := by omega
  have e2 : ((k : Int) % 8).toNat = k % 8 := by omega
  have e3 : (Int.tdiv (k : Int) 8) = (k : Int) / 8 := Int.tdiv_eq_ediv_of_nonneg (by omega)
  have e4 : (Int.tmod (k : Int) 8) = (k : Int) % 8 := Int.tmod_eq_emod_of_nonneg (by omega)
  have hk8 : (k : Int) / 8 < (n : Int) := by omega
  have hk0 : (0 : Int) ≤ (k : Int) / 8 := by omega
  clear h hb hn
  go_enter Tryd.func85, Tryd.ntmps85
  go_wp2
  go_ret
  exact ⟨ret_i (and_bit2 hkb k), rfl⟩
set_option maxRecDepth 100000 in
set_option maxHeartbeats 4000000 in
theorem rpack_any (v : Value) (o : Option DD) (l : List Mp) (A : Option Addr) (c : Nat) (w : World) (h : RefV w v o) (hm : MsAt w A l) (hl : l.length ≤ 1000000) (hmw : ∀ m ∈ l, m.Wf) (hwf : ∀ i s, (findC o i s).1.Wf) (h0 : checkC o l true = 0) (hv : ∀ m ∈ l, m.bits.toNat ≤ 8 * (valC o m).length) (hvb : ∀ m ∈ l, Byt (valC o m)) :
    Calls Tryd.prog 35 #[v, .slice A l.length c] w fun e w' => ∃ g, e = .returned (.tuple #[.slice (some ⟨g, 0, none⟩) (sizeC l) (sizeC l), .int .u32 0]) ∧ w.heap.size ≤ g ∧ Num.RowB w' g (packC o l) ∧ Below w.heap.size w w' := by
  have hall := check_0 h0
  have hbpos : ∀ m ∈ l, 0 ≤ m.bits := fun m hm => by have := one_bits (hall.1 m hm); omega
  have HCK := Aside0.mk (rmcheck_any v o l A c true w h hm hl hmw hwf)
  rw [h0] at HCK
  have HSZ := Aside0.mk fun W (hW : Below w.heap.size w W) => rmsize_any l A c W (hm.below hW) hl hbpos hall.2.1
  have HD := Aside0.mk h
  have HM := Aside0.mk hm
  have HMW := Aside0.mk hmw
  have HALL := Aside0.mk hall
  have HBP := Aside0.mk hbpos
  have HV := Aside0.mk hv
  have HVB := Aside0.mk hvb
  obtain ⟨n, hn⟩ : ∃ n, l.length = n := ⟨_, rfl⟩
  have HN := Aside0.mk hn
  obtain ⟨sz, hsz⟩ : ∃ sz, sizeC l = sz := ⟨_, rfl⟩
  have HSZE := Aside0.mk hsz
  have hsz9 : sz ≤ 9 := by have := hall.2.1; unfold sizeC at hsz; omega
  have hmk := fun W => Num.make_u8 sz (by omega) W
  rw [hn] at HCK HSZ hl ⊢
  rw [hsz] at HSZ ⊢
  clear h hm hmw hwf hall hbpos hv hvb hn hsz h0
  go_enter Tryd.func35, Tryd.ntmps35
  go_wp2_with (first
    | (go_at_call 31; refine HCK.out.mono ?_; rintro e w1 ⟨rfl, hb1⟩; have HB1 := Aside0.mk hb1; clear hb1)
    | (go_at_call 33; refine (HSZ.out _ HB1.out).mono ?_; rintro e w2 ⟨rfl, hb2⟩; have HB2 := Aside0.mk (HB1.out.trans (hb2.mono HB1.out.size)); clear hb2))
  clear hmk
  go_loopw [8, 9] (fun av iv wr => ∃ (k p : Nat), k ≤ n ∧ iv = .int .i64 k ∧ av = .int .i64 p ∧ Aside0 (sumC (l.take k) = p ∧ (stC o (l.take k)).length = p) ∧ Aside0 (Below w2.heap.size w2 wr) ∧ Aside0 (Num.RowB wr w2.heap.size (pkL (stC o (l.take k)) sz))) (fun _ iv _ => n - (intOf iv).toNat)
  case atStart => exact ⟨0, 0, Nat.zero_le _, rfl, rfl, ⟨by simp [sumC], by simp [stC]⟩, ⟨below_alloc (Below.refl _ _) _⟩, ⟨by rw [show stC o (l.take 0) = [] from rfl, pkL_nil]; exact Num.rowB_mz w2 sz⟩⟩
  case round =>
    obtain ⟨k, p, hk, rfl, rfl, HP, HB, HROW⟩ := hrel
    by_cases hlt : k < n
    · obtain ⟨m, hmk⟩ : ∃ m, l[k]? = some m := ⟨_, List.getElem?_eq_getElem (by rw [HN.out]; exact hlt)⟩
      have HW := Aside0.mk (HB2.out.trans (HB.out.mono HB2.out.size))
      obtain ⟨ad, rfl, y0, y1, y2⟩ := HM.out.below HW.out k m hmk
      have hmem := List.mem_of_getElem? hmk
      obtain ⟨hw1, hw2, hw3⟩ := HMW.out m hmem
      have hone := HALL.out.1 m hmem
      have hbt := one_bits hone
      obtain ⟨nb, hnb⟩ : ∃ nb : Nat, m.bits = (nb : Int) := ⟨m.bits.toNat, by omega⟩
      have hsum := sumC_take l k m hmk
      have hsle := (sumC_le HBP.out (k + 1)).2
      have h64 : p + nb ≤ 64 ∧ p + nb ≤ 8 * sz := by
        have h3 := HP.out.1
        have h4 := HALL.out.2.1
        have h5 := HSZE.out
        unfold sizeC at h5
        omega
      have hst2 : stC o (l.take (k + 1)) = stC o (l.take k) ++ bitsL (valC o m) 0 nb := by
        rw [List.take_add_one, hmk]
        simp [stC, hnb]
      have HST := Aside0.mk hst2
      have HSUM := Aside0.mk (show sumC (l.take (k + 1)) = ((p + nb : Nat) : Int) by rw [hsum, HP.out.1, hnb]; omega)
      obtain ⟨d, rfl⟩ : ∃ d, o = some d := by
        cases o with
        | some d => exact ⟨d, rfl⟩
        | none =>
          rcases one_0 hone with ⟨_, e⟩ | ⟨_, e, _⟩
          · cases e
          · simp [findC] at e
      obtain ⟨gr, L, N, rfl, hra, hro⟩ := HD.out.below HW.out
      have HGET := Aside0.mk (rget_any gr L N d hro m.ix m.sub wr hra)
      have hvz : (findC (some d) m.ix m.sub).1.val = valC (some d) m := rfl
      have hfn := HV.out m hmem
      have hvb := HVB.out m hmem
      generalize findC (some d) m.ix m.sub = r at HGET hvz
      obtain ⟨x, code⟩ := r
      obtain ⟨zs, hzs⟩ : ∃ zs, valC (some d) m = zs := ⟨_, rfl⟩
      rw [hzs] at hvz hfn hvb HST
      rw [show m.bits.toNat = nb by omega] at hfn
      have HFN := Aside0.mk hfn
      have HVB2 := Aside0.mk hvb
      simp only at hvz
      have HVZ := Aside0.mk hvz
      rw [hnb] at y2
      obtain ⟨mi, ms, mb⟩ := m
      simp only at hnb y0 y1 hw1 hw2 hw3 hbt
      have HMK := Aside0.mk hmk
      clear hst2 hsum hsle hone hmem hra hro hvz hfn hvb hzs hmk
      go_wp2_with (go_at_call 84; go_loud (refine HGET.out.mono ?_; rintro e w4 ⟨v5, rfl, ha5, ho5, hb4⟩; simp only at ha5; rw [HVZ.out] at ha5; obtain ⟨A5, c5, rfl, ha6⟩ := ha5; have HA5 := Aside0.mk (show ArgV w4 (.slice A5 zs.length c5) zs from ⟨_, _, rfl, ha6⟩); have HO5 := Aside0.mk ho5; have HB4 := Aside0.mk hb4; clear ha6 ho5 hb4))
      have HROW4 := Aside0.mk (show Num.RowB w4 w2.heap.size (pkL (stC (some d) (l.take k)) sz) from blk_below HROW.out HB4.out)
      have hg4 : w2.heap.size < wr.heap.size := blk_lt HROW.out
      have hoff : Off (fun x => x = w2.heap.size) A5 zs.length := by
        intro ad5 e hn5 h
        have h2 := HO5.out ad5.block (by rw [e]; rfl)
        have : ad5.block = w2.heap.size := h
        omega
      have HOFF := Aside0.mk hoff
      have HW4 := Aside0.mk (HW.out.trans (HB4.out.mono HW.out.size))
      clear hoff y0 y1 y2
      go_loopw [8, 12] (fun av jv wr => ∃ (j q : Nat), j ≤ nb ∧ q = p + j ∧ jv = .int .i64 j ∧ av = .int .i64 q ∧ Aside0 (Num.RowB wr w2.heap.size (pkL (stC (some d) (l.take k) ++ bitsL zs 0 j) sz)) ∧ Aside0 (Fr (fun x => x = w2.heap.size) w4 wr)) (fun _ jv _ => nb - (intOf jv).toNat)
      case atStart => exact ⟨0, p, Nat.zero_le _, rfl, rfl, rfl, ⟨by rw [show bitsL zs 0 0 = [] from rfl, List.append_nil]; exact HROW4.out⟩, ⟨Fr.refl _ _⟩⟩
      case round =>
        rename World => wi
        obtain ⟨j, q, hj, hq, rfl, rfl, HROWI, HFI⟩ := hrel
        have HWI := Aside0.mk (HW4.out.trans (HFI.out.below (B := w.heap.size) (fun jj hjj => ⟨by have := HW4.out.size; omega, fun e => by have : jj = w2.heap.size := e; have := HB2.out.size; omega⟩)))
        obtain ⟨ad', e', -, -, y2⟩ := HM.out.below HWI.out k _ HMK.out
        injection e' with e'
        subst e'
        simp only [hnb] at y2
        by_cases hltj : j < nb
        · have hq8 : q / 8 < sz := by omega
          have hbt2 : Bits (stC (some d) (l.take k) ++ bitsL zs 0 j) := by
            intro y hy
            rcases List.mem_append.1 hy with hy | hy
            · exact Num.bits_stC _ _ y hy
            · exact bits_bitsL _ _ _ y hy
          have hlen : (stC (some d) (l.take k) ++ bitsL zs 0 j).length = q := by rw [List.length_append, bitsL_length, HP.out.2, hq]
          have HRD := Aside0.mk ((argv_arg HA5.out).rd.fr HFI.out HOFF.out)
          have hbit := fun W hW => rbit_any A5 zs.length c5 zs j W hW HVB2.out rfl (by have := HFN.out; omega) (by omega)
          obtain ⟨x1, hx1⟩ : ∃ x1, bit zs j = x1 := ⟨_, rfl⟩
          have hx01 : x1 = 0 ∨ x1 = 1 := hx1 ▸ bit_01 _ _
          rw [hx1] at hbit
          have HBIT := Aside0.mk hbit
          have hbs := bitsL_succ zs 0 j
          rw [Nat.zero_add, hx1] at hbs
          have HBS := Aside0.mk hbs
          obtain ⟨t, ht⟩ : ∃ t, stC (some d) (l.take k) ++ bitsL zs 0 j = t := ⟨_, rfl⟩
          rw [ht] at hbt2 hlen HROWI
          have HTT := Aside0.mk ht
          have hrow2 : Num.RowB wi.drew w2.heap.size (pkL t sz) := HROWI.out
          obtain ⟨hc, hfz⟩ := hrow2.cell (q / 8) (by rw [pkL_length]; exact hq8)
          rw [pkL_get _ _ _ hq8] at hc
          have hlow := Num.byteP_low hbt2
          rw [hlen] at hlow
          obtain ⟨cur, hcur⟩ : ∃ cur, byteP t (q / 8) = cur := ⟨_, rfl⟩
          rw [hcur] at hc hlow
          have hjoin : bits .or .u8 cur (x1 * 2 ^ (q % 8) % 256) = cur + x1 * 2 ^ (q % 8) := Num.u8_join cur x1 (q % 8) (by omega) hlow hx01
          have HJ := Aside0.mk hjoin
          have HC := Aside0.mk hcur
          have HLEN := Aside0.mk hlen
          have HR2 := Aside0.mk hrow2
          have e1 : ((q : Int) / 8).toNat = q / 8 := by omega
          have e2 : ((q : Int) % 8).toNat = q % 8 := by omega
          have e3 : (Int.tdiv (q : Int) 8) = (q : Int) / 8 := Int.tdiv_eq_ediv_of_nonneg (by omega)
          have e4 : (Int.tmod (q : Int) 8) = (q : Int) % 8 := Int.tmod_eq_emod_of_nonneg (by omega)
          have e5 : IntKind.i64.wrap ((q : Int) / 8) = (q : Int) / 8 := by rw [IntKind.wrap_i64]; omega
          have e6 : IntKind.i64.wrap ((q : Int) % 8) = (q : Int) % 8 := by rw [IntKind.wrap_i64]; omega
          have hk8 : (q : Int) / 8 < (sz : Int) := by omega
          have hk0 : (0 : Int) ≤ (q : Int) / 8 := by omega
          have hji : (j : Int) < (nb : Int) := by omega
          have HQJ := Aside0.mk hq
          have hq64 : q < 64 := by omega
          clear hlow hjoin hcur hrow2 hlen hbt2 ht hbit hx1 hbs hx01 hq h64
          go_wp2
          go_still_tail 16, (by kernel_rfl)
          still_call (HBIT.out wi.drew HRD.out)
          repeat still_step
          refine wpStill_nil ?_
          change wpList _ _ _ _ _ wi.drew
          have HFW := Aside0.mk (HFI.out.trans (Fr.drew _ wi))
          generalize wi.drew = W2 at hc hfz HR2 HFW ⊢
          go_wp2
          go_roundw
          case rel =>
            have hput := HR2.out.put (q / 8) (cur + x1 * 2 ^ (q % 8))
            have hset := pkL_set t x1 sz (by rw [HLEN.out]; exact hq8)
            rw [HLEN.out, HC.out] at hset
            rw [hset] at hput
            refine ⟨j + 1, q + 1, by omega, by have := HQJ.out; omega, by go_num, by go_num, ⟨?_⟩, ⟨HFW.out.trans (Fr.setCell (M := fun x => x = w2.heap.size) _ _ _ (.inl rfl))⟩⟩
            rw [HBS.out, ← List.append_assoc, HTT.out, HJ.out]
            exact hput
          case measure => simp [intOf]; omega
        · obtain rfl : j = nb := by omega
          have HQJ := Aside0.mk hq
          have hji : ¬ (j : Int) < (j : Int) := by omega
          clear hq
          go_wp2
          go_roundw
          case rel =>
            refine ⟨k + 1, p + j, by omega, by go_num, by rw [HQJ.out], ⟨HSUM.out, ?_⟩, ⟨?_⟩, ⟨?_⟩⟩
            · rw [HST.out, List.length_append, bitsL_length, HP.out.2]
            · exact (HB.out.trans (HB4.out.mono HB.out.size)).trans (HFI.out.below (B := w2.heap.size) (fun jj hjj => ⟨by have := HB4.out.size; omega, fun e => by have : jj = w2.heap.size := e; omega⟩))
            · rw [HST.out]
              exact HROWI.out
          case measure => simp [intOf]; omega
    · obtain rfl : k = n := by omega
      go_wp2
      go_ret2
      refine ⟨_, rfl, HB2.out.size, ?_, HB2.out.trans (HB.out.mono HB2.out.size)⟩
      unfold packC
      rw [HSZE.out]
      have h1 := HROW.out
      rw [List.take_of_length_le (by rw [HN.out]; exact Nat.le_refl _)] at h1
      exact h1
end Go.Proofs.YtokebpeplopjhaaDoor.Mp
namespace Go.Proofs.YtokebpeplopjhaaDoor.Mp
open Go.RowKit Go.Shelf Go.Proofs.YtokebpeplopjhaaDoor.Rng Go.Proofs.YtokebpeplopjhaaDoorW.PrintWords Go.Proofs.YtokebpeplopjhaaDoorW.PrintMore Go.Proofs.YtokebpeplopjhaaDoorW.PrintLast

theorem info_rv : (Tryd.prog.info? 71).map (fun i => (i.zero, i.size, i.bytes)) = some (some (.agg #[.int .u16 0, .int .u8 0, .slice none 0 0]), 3, 32) := by kernel_rfl
/-- What the document's Unpack tells. -/
def RUnpSaid (w : World) (r : List Vl × Int) (e : Ending) (w' : World) : Prop := ∃ v base, e = .returned (.tuple #[v, .int .u32 r.2]) ∧ w.heap.size ≤ base ∧ Kd.R kV 71 w' base (fun _ => True) v r.1 ∧ Below w.heap.size w w'
set_option maxRecDepth 100000 in
set_option maxHeartbeats 4000000 in
theorem runpack_any (v : Value) (o : Option DD) (l : List Mp) (A : Option Addr) (c : Nat) (Ab : Option Addr) (cb : Nat) (b : List Int) (w : World) (h : RefV w v o) (hm : MsAt w A l) (hl : l.length ≤ 1000000) (hmw : ∀ m ∈ l, m.Wf) (hwf : ∀ i s, (findC o i s).1.Wf) (hb : Arg w Ab cb b) :
    Calls Tryd.prog 36 #[v, .slice A l.length c, .slice Ab b.length cb] w (RUnpSaid w (unpackC o l b)) := by
  obtain ⟨r, hr⟩ : ∃ r, unpackC o l b = r := ⟨_, rfl⟩
  rw [hr]
  unfold unpackC at hr
  have HCK := Aside0.mk (rmcheck_any v o l A c false w h hm hl hmw hwf)
  have HD := Aside0.mk h
  have HM := Aside0.mk hm
  have HMW := Aside0.mk hmw
  have HWF := Aside0.mk hwf
  have HBA := Aside0.mk hb
  obtain ⟨q, hq⟩ : ∃ q, checkC o l false = q := ⟨_, rfl⟩
  rw [hq] at hr HCK
  obtain ⟨n, hn⟩ : ∃ n, l.length = n := ⟨_, rfl⟩
  have HN := Aside0.mk hn
  have HQ := Aside0.mk hq
  obtain ⟨nb, hnb⟩ : ∃ nb, b.length = nb := ⟨_, rfl⟩
  have HNB := Aside0.mk hnb
  clear h hm hmw hwf hb hq
  by_cases hq0 : q = 0
  · subst hq0
    rw [if_neg (by simp)] at hr
    have hall := check_0 HQ.out
    have HALL := Aside0.mk hall
    have hbpos : ∀ m ∈ l, 0 ≤ m.bits := fun m hm => by have := one_bits (hall.1 m hm); omega
    have HSZ := Aside0.mk fun W (hW : Below w.heap.size w W) => rmsize_any l A c W (HM.out.below hW) hl hbpos hall.2.1
    have HBP := Aside0.mk hbpos
    clear hall hbpos
    obtain ⟨sz, hsz⟩ : ∃ sz, sizeC l = sz := ⟨_, rfl⟩
    have HSZE := Aside0.mk hsz
    rw [hn] at HCK HSZ hl ⊢
    rw [hsz] at HSZ hr
    rw [hnb] at hr ⊢
    clear hn hnb hsz
    by_cases hlen : nb < sz
    · rw [if_pos hlen] at hr
      subst hr
      have hli : (nb : Int) < (sz : Int) := by omega
      go_enter Tryd.func36, Tryd.ntmps36
      go_wp2_with (first
        | (go_at_call 31; refine HCK.out.mono ?_; rintro e w1 ⟨rfl, hb1⟩; have HB1 := Aside0.mk hb1; clear hb1)
        | (go_at_call 33; refine (HSZ.out _ HB1.out).mono ?_; rintro e w2 ⟨rfl, hb2⟩; have HB2 := Aside0.mk (HB1.out.trans (hb2.mono HB1.out.size)); clear hb2))
      go_ret2
      exact ⟨_, w.heap.size, rfl, Nat.le_refl _, Kd.R_nil _ _ _ _ _, HB2.out⟩
    · rw [if_neg hlen] at hr
      have HR := Aside0.mk hr
      have hli : ¬ (nb : Int) < (sz : Int) := by omega
      have HLEN := Aside0.mk hlen
      clear hr hlen
      go_enter Tryd.func36, Tryd.ntmps36
      go_wp2_with (first
        | (go_at_call 31; refine HCK.out.mono ?_; rintro e w1 ⟨rfl, hb1⟩; have HB1 := Aside0.mk hb1; clear hb1)
        | (go_at_call 33; refine (HSZ.out _ HB1.out).mono ?_; rintro e w2 ⟨rfl, hb2⟩; have HB2 := Aside0.mk (HB1.out.trans (hb2.mono HB1.out.size)); clear hb2))
      clear hli
      try rw [decide_eq_false HLEN.out]
      go_loopw [9, 10, 11] (fun ov av iv wr => ∃ (k at_ : Nat) (acc : List Vl), k ≤ n ∧ iv = .int .i64 k ∧ av = .int .i64 at_ ∧ Aside0 (unpA o b l 0 [] = unpA o b (l.drop k) at_ acc) ∧ Aside0 (sumC (l.take k) = at_ ∧ acc.length ≤ k) ∧ Aside0 (Kd.R kV 71 wr w2.heap.size (fun _ => True) ov acc) ∧ Aside0 (Below w2.heap.size w2 wr)) (fun _ _ iv _ => n - (intOf iv).toNat)
      case atStart => exact ⟨0, 0, [], Nat.zero_le _, rfl, rfl, ⟨rfl⟩, ⟨by simp [sumC], by simp⟩, ⟨Kd.R_nil _ _ _ _ _⟩, ⟨Below.refl _ _⟩⟩
      case round =>
        obtain ⟨k, at_, acc, hk, rfl, rfl, HU, HAT, HRA, HB⟩ := hrel
        by_cases hlt : k < n
        · obtain ⟨m, hmk⟩ : ∃ m, l[k]? = some m := ⟨_, List.getElem?_eq_getElem (by rw [HN.out]; exact hlt)⟩
          have hmem := List.mem_of_getElem? hmk
          have HW := Aside0.mk (HB2.out.trans (HB.out.mono HB2.out.size))
          obtain ⟨ad, rfl, y0, y1, y2⟩ := HM.out.below HW.out k m hmk
          obtain ⟨hw1, hw2, hw3⟩ := HMW.out m hmem
          have hone := HALL.out.1 m hmem
          have hbb := one_bits hone
          obtain ⟨nn, hnn⟩ : ∃ nn : Nat, m.bits = (nn : Int) := ⟨m.bits.toNat, by omega⟩
          have hdrop : l.drop k = m :: l.drop (k + 1) := by
            have hkl : k < l.length := by rw [HN.out]; exact hlt
            rw [List.drop_eq_getElem_cons hkl]
            rw [List.getElem?_eq_getElem hkl] at hmk
            injection hmk with hmk
            rw [hmk]
          have hsum := sumC_take l k m hmk
          have hsle := (sumC_le HBP.out (k + 1)).2
          have hszc : at_ + nn ≤ 8 * nb ∧ at_ + nn ≤ 64 := by
            have h1 := HLEN.out
            have h3 := HAT.out.1
            have h4 := HALL.out.2.1
            have h5 := HSZE.out
            unfold sizeC at h5
            omega
          have HSUM := Aside0.mk (show sumC (l.take (k + 1)) = ((at_ + nn : Nat) : Int) by rw [hsum, HAT.out.1, hnn]; omega)
          have hu := HU.out
          rw [hdrop, show unpA o b (m :: l.drop (k + 1)) at_ acc = if gapC m then unpA o b (l.drop (k + 1)) (at_ + m.bits.toNat) acc
            else if (mayW o m.ix m.sub (outV b at_ m.bits.toNat)).2 ≠ 0 then ([], (mayW o m.ix m.sub (outV b at_ m.bits.toNat)).2)
            else unpA o b (l.drop (k + 1)) (at_ + m.bits.toNat) (acc ++ [((m.ix, m.sub), outV b at_ m.bits.toNat)]) from rfl, show m.bits.toNat = nn by omega] at hu
          obtain ⟨ix, sub, bits⟩ := m
          simp only at hnn hw1 hw2 hw3 y0 y1 y2 hu hbb
          subst hnn
          obtain ⟨ml, hml⟩ : ∃ ml : Nat, (nn + 7) / 8 = ml := ⟨_, rfl⟩
          have HML := Aside0.mk hml
          have hml8 : ml ≤ 9 ∧ nn ≤ 8 * ml := by omega
          have hmk2 : ∀ W, (Instr.makeSlice 34 (.int .i64 (((nn : Int) + 7) / 8)) (.int .i64 (((nn : Int) + 7) / 8))).run Tryd.prog W = .ok (.slice (some ⟨W.heap.size, 0, none⟩) ml ml) (W.alloc (.cells (Num.mz ml) 5)) := fun W => by
            rw [show ((nn : Int) + 7) / 8 = ((ml : Nat) : Int) by omega]
            exact Num.make_u8 ml (by omega) W
          have m1 : IntKind.i64.wrap ((nn : Int) + 7) = (nn : Int) + 7 := by rw [IntKind.wrap_i64]; omega
          have m2 : (Int.tdiv ((nn : Int) + 7) 8) = ((nn : Int) + 7) / 8 := Int.tdiv_eq_ediv_of_nonneg (by omega)
          have m3 : IntKind.i64.wrap (((nn : Int) + 7) / 8) = ((nn : Int) + 7) / 8 := by rw [IntKind.wrap_i64]; omega
          have HU2 := Aside0.mk hu
          have HMK := Aside0.mk hmk
          have hi1 : (k : Int) < (n : Int) := by omega
          clear hu hsum hsle hdrop hmem hmk hml
          go_wp2
          have hgw : w2.heap.size ≤ wr.heap.size := HB.out.size
          have hfre : ∀ X, Fr (fun x => x = wr.heap.size) (wr.alloc (.cells (Num.mz ml) 5)) X → Below wr.heap.size wr X := fun X hX => (below_alloc (Below.refl _ _) _).trans (hX.below (B := wr.heap.size) (fun jj hjj => ⟨by simp; omega, fun e => by have : jj = wr.heap.size := e; omega⟩))
          have HFRE := Aside0.mk hfre
          clear hfre hmk2 y0 y1 y2
          go_loopw [10, 13] (fun av jv wr_ => ∃ (j q : Nat), j ≤ nn ∧ q = at_ + j ∧ jv = .int .i64 j ∧ av = .int .i64 q ∧ Aside0 (Num.RowB wr_ wr.heap.size (pkL (bitsL b at_ j) ml)) ∧ Aside0 (Fr (fun x => x = wr.heap.size) (wr.alloc (.cells (Num.mz ml) 5)) wr_)) (fun _ jv _ => nn - (intOf jv).toNat)
          case atStart => exact ⟨0, at_, Nat.zero_le _, rfl, rfl, rfl, ⟨by rw [show bitsL b at_ 0 = [] from rfl, pkL_nil]; exact Num.rowB_mz wr ml⟩, ⟨Fr.refl _ _⟩⟩
          case round =>
            rename World => wi
            obtain ⟨j, q, hj, hq, rfl, rfl, HROWI, HFI⟩ := hrel
            have HWI := Aside0.mk (HW.out.trans ((HFRE.out _ HFI.out).mono HW.out.size))
            obtain ⟨ad', e', y0, y1, y2⟩ := HM.out.below HWI.out k _ HMK.out
            injection e' with e'
            subst e'
            simp only at y0 y1 y2
            by_cases hltj : j < nn
            · have hq8 : j / 8 < ml := by omega
              have hbt2 : Bits (bitsL b at_ j) := bits_bitsL _ _ _
              have hlen : (bitsL b at_ j).length = j := bitsL_length _ _ _
              have HRD := Aside0.mk (HBA.out.below HWI.out).rd
              have hbit := fun W hW => rbit_any Ab nb cb b q W hW HBA.out.byt HNB.out (by omega) (by omega)
              obtain ⟨x1, hx1⟩ : ∃ x1, bit b q = x1 := ⟨_, rfl⟩
              have hx01 : x1 = 0 ∨ x1 = 1 := hx1 ▸ bit_01 _ _
              rw [hx1] at hbit
              have HBIT := Aside0.mk hbit
              have hbs := bitsL_succ b at_ j
              rw [← hq, hx1] at hbs
              have HBS := Aside0.mk hbs
              obtain ⟨t, ht⟩ : ∃ t, bitsL b at_ j = t := ⟨_, rfl⟩
              rw [ht] at hbt2 hlen HROWI HBS
              have hrow2 : Num.RowB wi.drew wr.heap.size (pkL t ml) := HROWI.out
              obtain ⟨hc, hfz⟩ := hrow2.cell (j / 8) (by rw [pkL_length]; exact hq8)
              rw [pkL_get _ _ _ hq8] at hc
              have hlow := Num.byteP_low hbt2
              rw [hlen] at hlow
              obtain ⟨cur, hcur⟩ : ∃ cur, byteP t (j / 8) = cur := ⟨_, rfl⟩
              rw [hcur] at hc hlow
              have hjoin : bits .or .u8 cur (x1 * 2 ^ (j % 8) % 256) = cur + x1 * 2 ^ (j % 8) := Num.u8_join cur x1 (j % 8) (by omega) hlow hx01
              have HJ := Aside0.mk hjoin
              have HC := Aside0.mk hcur
              have HLEN2 := Aside0.mk hlen
              have HR2 := Aside0.mk hrow2
              have e1 : ((j : Int) / 8).toNat = j / 8 := by omega
              have e2 : ((j : Int) % 8).toNat = j % 8 := by omega
              have e3 : (Int.tdiv (j : Int) 8) = (j : Int) / 8 := Int.tdiv_eq_ediv_of_nonneg (by omega)
              have e4 : (Int.tmod (j : Int) 8) = (j : Int) % 8 := Int.tmod_eq_emod_of_nonneg (by omega)
              have e5 : IntKind.i64.wrap ((j : Int) / 8) = (j : Int) / 8 := by rw [IntKind.wrap_i64]; omega
              have e6 : IntKind.i64.wrap ((j : Int) % 8) = (j : Int) % 8 := by rw [IntKind.wrap_i64]; omega
              have hk8 : (j : Int) / 8 < (ml : Int) := by omega
              have hk0 : (0 : Int) ≤ (j : Int) / 8 := by omega
              have hji : (j : Int) < (nn : Int) := by omega
              have HQJ := Aside0.mk hq
              have hq64 : q < 64 := by omega
              clear hlow hjoin hcur hrow2 hlen hbt2 ht hbit hx1 hbs hx01 hq hszc m1 m2 m3
              go_wp2
              go_still_tail 16, (by kernel_rfl)
              still_call (HBIT.out wi.drew HRD.out)
              repeat still_step
              refine wpStill_nil ?_
              change wpList _ _ _ _ _ wi.drew
              have HFW := Aside0.mk (HFI.out.trans (Fr.drew _ wi))
              generalize wi.drew = W2 at hc hfz HR2 HFW ⊢
              go_wp2
              go_roundw
              case rel =>
                have hput := HR2.out.put (j / 8) (cur + x1 * 2 ^ (j % 8))
                have hset := pkL_set t x1 ml (by rw [HLEN2.out]; exact hq8)
                rw [HLEN2.out, HC.out] at hset
                rw [hset] at hput
                refine ⟨j + 1, q + 1, by omega, by have := HQJ.out; omega, by go_num, by go_num, ⟨?_⟩, ⟨HFW.out.trans (Fr.setCell (M := fun x => x = wr.heap.size) _ _ _ (.inl rfl))⟩⟩
                rw [HBS.out, HJ.out]
                exact hput
              case measure => simp [intOf]; omega
            · obtain rfl : j = nn := by omega
              have HQJ := Aside0.mk hq
              have hji : ¬ (j : Int) < (j : Int) := by omega
              have HBI := Aside0.mk (HFRE.out _ HFI.out)
              have HBI2 := Aside0.mk (HB.out.trans (HBI.out.mono HB.out.size))
              have HRAI := Aside0.mk (Kd.R_below HRA.out HBI.out)
              have HOV := Aside0.mk (show Num.RowB wi wr.heap.size (outV b at_ j) by unfold outV; rw [HML.out]; exact HROWI.out)
              have HOL := Aside0.mk (show (outV b at_ j).length = ml by rw [outV_length]; exact HML.out)
              clear hq m1 m2 m3
              by_cases hg : gapC ⟨ix, sub, j⟩
              · have HGAP := Aside0.mk (decide_eq_true hg)
                have hu2 := HU2.out
                rw [if_pos hg] at hu2
                have HU3 := Aside0.mk hu2
                clear hu2 hg
                go_wp2_with (go_at_call 86; refine (rgap_any ix sub j hw1 _).mono ?_; rw [HGAP.out]; rintro e w5 ⟨rfl, hb5⟩; have HB5 := Aside0.mk hb5; clear hb5)
                go_roundw
                case rel =>
                  exact ⟨k + 1, q, acc, by omega, by go_num, rfl, ⟨by rw [HQJ.out]; exact HU3.out⟩, ⟨by rw [HQJ.out]; exact HSUM.out, by have := HAT.out.2; omega⟩, ⟨Kd.R_below HRAI.out HB5.out⟩, ⟨HBI2.out.trans (HB5.out.mono HBI2.out.size)⟩⟩
                case measure => simp [intOf]; omega
              · have HGAP := Aside0.mk (decide_eq_false hg)
                obtain ⟨d, rfl⟩ : ∃ d, o = some d := by
                  cases o with
                  | some d => exact ⟨d, rfl⟩
                  | none =>
                    rcases one_0 hone with ⟨e, _⟩ | ⟨_, e, _⟩
                    · exact absurd e hg
                    · simp [findC] at e
                obtain ⟨gr, L, N, rfl, hra, hro⟩ := HD.out.below HWI.out
                have HRAT := Aside0.mk hra
                obtain ⟨⟨t1, t2⟩, hmw2⟩ : ∃ q, mayW (some d) ix sub (outV b at_ j) = q := ⟨_, rfl⟩
                have HMW2 := Aside0.mk hmw2
                have hu2 := HU2.out
                rw [if_neg hg, hmw2] at hu2
                simp only at hu2
                have HRO := Aside0.mk hro
                have hmay : ∀ (W : World), Below wi.heap.size wi W → Calls Tryd.prog 87 #[.pointer (some ⟨gr, 0, none⟩), pl ix sub, .slice (some ⟨wr.heap.size, 0, none⟩) ml ml] W (MaySaid W (t1, t2)) := fun W hW => by
                  have h1 := rmayw_any gr L N d HRO.out ix sub (some ⟨wr.heap.size, 0, none⟩) ml (outV b at_ j) W (HRAT.out.below hW) ⟨rowB_rd (show Num.RowB W wr.heap.size (outV b at_ j) from blk_below HOV.out hW) (by rw [HOL.out]; omega), outV_byt _ _ _, Nat.le_of_eq HOL.out, by omega⟩ (HWF.out ix sub)
                  rw [HOL.out, HMW2.out] at h1
                  exact h1
                have HMAY := Aside0.mk hmay
                clear hg hra hro hmw2 hmay
                by_cases ht2 : t2 = 0
                · subst ht2
                  rw [if_neg (by simp)] at hu2
                  have HU3 := Aside0.mk hu2
                  clear hu2
                  go_wp2_with (first
                    | (go_at_call 86; refine (rgap_any ix sub j hw1 _).mono ?_; rw [HGAP.out]; rintro e w5 ⟨rfl, hb5⟩; have HB5 := Aside0.mk hb5; obtain ⟨ad5, e5, d0, d1, -⟩ := HM.out.below (HWI.out.trans (hb5.mono HWI.out.size)) k _ HMK.out; injection e5 with e5; subst e5; simp only at d0 d1; clear hb5)
                    | (go_at_call 87; refine (HMAY.out _ HB5.out).mono ?_; rintro e w6 ⟨rfl, hb6⟩; have HB6 := Aside0.mk (HB5.out.trans (hb6.mono HB5.out.size)); obtain ⟨ad6, e6, q0, q1, -⟩ := HM.out.below (HWI.out.trans (HB6.out.mono HWI.out.size)) k _ HMK.out; injection e6 with e6; subst e6; simp only at q0 q1; have HRA6 := Aside0.mk (Kd.R_below HRAI.out HB6.out); have HRB6 := Aside0.mk (show Num.RowB w6 wr.heap.size (outV b at_ j) from blk_below HOV.out HB6.out); clear hb6)
                    | ((with_reducible refine gate_builtin (b := .append) (xs := #[.tmp 87, .tmp 95]) rfl ?_); at_builtin; go_loud (refine Kd.R_append kV (w0 := w6) w2.heap.size rfl (.tmp 87) (.tmp 95) 68 71 (.agg #[.int .u16 0, .int .u8 0, .slice none 0 0]) 32 rfl Tryd.underlying68 info_rv rfl (by decide) (by decide) _ acc ((ix, sub), outV b at_ j) [.int .u16 ix, .int .u8 sub, .slice (some ⟨wr.heap.size, 0, none⟩) ml ml] (fun _ => True) (fun k => k = wr.heap.size) rfl rfl (kV_M HRB6.out HB.out.size HOL.out (by rw [HOL.out]; omega)) (fun kk hkk => ⟨trivial, fun ee => by have h1 := (Kd.R_lt HRA.out) kk ee.symm; have h2 : kk = wr.heap.size := hkk; omega⟩) (fun _ _ => trivial) HRA6.out (Below.refl _ _) (Nat.le_trans HBI2.out.size HB6.out.size) (by have := HAT.out.2; omega) ?_; intro v7 w7 hown hb7 hg7 hat7; have HR7 := Aside0.mk hown; have HB7 := Aside0.mk hb7; clear hown hb7 hg7 hat7)))
                  go_roundw
                  case rel =>
                    exact ⟨k + 1, q, acc ++ [((ix, sub), outV b at_ j)], by omega, by go_num, rfl, ⟨by rw [HQJ.out]; exact HU3.out⟩, ⟨by rw [HQJ.out]; exact HSUM.out, by have := HAT.out.2; simp; omega⟩, HR7, ⟨(HBI2.out.trans (HB6.out.mono HBI2.out.size)).trans HB7.out⟩⟩
                  case measure => simp [intOf]; omega
                · have f1 : (t2 == 0) = false := by simpa using ht2
                  have f2 : (t2 != 0) = true := by simpa using ht2
                  rw [if_pos ht2] at hu2
                  have hrr : r = ([], t2) := by rw [← HR.out, hu2]
                  subst hrr
                  clear hu2
                  go_wp2_with (first
                    | (go_at_call 86; refine (rgap_any ix sub j hw1 _).mono ?_; rw [HGAP.out]; rintro e w5 ⟨rfl, hb5⟩; have HB5 := Aside0.mk hb5; obtain ⟨ad5, e5, d0, d1, -⟩ := HM.out.below (HWI.out.trans (hb5.mono HWI.out.size)) k _ HMK.out; injection e5 with e5; subst e5; simp only at d0 d1; clear hb5)
                    | (go_at_call 87; refine (HMAY.out _ HB5.out).mono ?_; rintro e w6 ⟨rfl, hb6⟩; have HB6 := Aside0.mk (HB5.out.trans (hb6.mono HB5.out.size)); clear hb6))
                  go_ret2
                  exact ⟨_, w.heap.size, rfl, Nat.le_refl _, Kd.R_nil _ _ _ _ _, HWI.out.trans (HB6.out.mono HWI.out.size)⟩
        · obtain rfl : k = n := by omega
          have hrr : r = (acc, 0) := by
            rw [← HR.out, HU.out, List.drop_of_length_le (by rw [HN.out]; exact Nat.le_refl _)]
            rfl
          subst hrr
          go_wp2
          go_ret2
          exact ⟨_, w2.heap.size, rfl, HB2.out.size, HRA.out, HB2.out.trans (HB.out.mono HB2.out.size)⟩
  · have g1 : (q == 0) = false := by simpa using hq0
    have g2 : (q != 0) = true := by simpa using hq0
    rw [if_pos hq0] at hr
    subst hr
    rw [hn] at HCK ⊢
    rw [hnb] at ⊢
    clear hn hnb
    go_enter Tryd.func36, Tryd.ntmps36
    go_wp2_with (go_at_call 31; refine HCK.out.mono ?_; rintro e w1 ⟨rfl, hb1⟩; have HB1 := Aside0.mk hb1; clear hb1)
    go_ret2
    exact ⟨_, w.heap.size, rfl, Nat.le_refl _, Kd.R_nil _ _ _ _ _, HB1.out⟩
end Go.Proofs.YtokebpeplopjhaaDoor.Mp
namespace Go.Proofs.YtokebpeplopjhaaDoor.Mp
open Go.RowKit Go.Shelf Go.Proofs.YtokebpeplopjhaaDoor.Rng Go.Proofs.YtokebpeplopjhaaDoorW.PrintWords Go.Proofs.YtokebpeplopjhaaDoorW.PrintMore Go.Proofs.YtokebpeplopjhaaDoorW.PrintLast

/-- The document's dictionary holds what d holds; its blocks are named. -/
def RefW (B : Nat) (w : World) (g gA : Nat) (d : DD) : Prop := B ≤ gA ∧ gA < w.heap.size ∧ RowAt w g gA ∧ ∃ L, RefB B w g L d.c ∧ RefOf L d ∧ Srt L
theorem RefB.ge {B : Nat} {w : World} {g : Nat} {L : List It} {N : Int} (h : RefB B w g L N) : B ≤ g ∧ g < w.heap.size := by
  obtain ⟨A, c, cs, h0, h1, -⟩ := h
  exact ⟨h0, blk_lt h1⟩
theorem RowAt.block {w w' : World} {g gA : Nat} (h : RowAt w g gA) (hb : w'.heap[g]? = w.heap[g]?) : RowAt w' g gA := fun A n c u t z hh => h A n c u t z (hb ▸ hh)
theorem RefB.row {B : Nat} {w : World} {g : Nat} {L : List It} {N : Int} (h : RefB B w g L N) : ∃ gA, B ≤ gA ∧ gA < w.heap.size ∧ RowAt w g gA := by
  obtain ⟨A, c, cs, h0, h1, h2, -, -, -, h6⟩ := h
  have key : ∀ gA, (∀ ad, A = some ad → ad.block = gA) → RowAt w g gA := by
    intro gA hA A' n' c2 u t z hh ad hA'
    rw [h1] at hh
    injection hh with hh
    injection hh with hh _ _
    simp only [Array.mk.injEq, List.cons.injEq, Value.slice.injEq] at hh
    rw [← hh.1.1] at hA'
    exact hA ad hA'
  cases A with
  | none => exact ⟨g, h0, blk_lt h1, key g (fun ad e => by cases e)⟩
  | some ad =>
    obtain ⟨q1, -, ⟨-, cells, q2⟩, -⟩ := h6 ad rfl
    exact ⟨ad.block, q1, blk_lt q2, key _ (fun ad' e => by injection e with e; rw [e])⟩
theorem RefW.below {B : Nat} {w w' : World} {g gA : Nat} {d : DD} (h : RefW B w g gA d) (hb : Below w.heap.size w w') : RefW B w' g gA d := by
  obtain ⟨h1, h2, h3, L, h4, h5⟩ := h
  exact ⟨h1, Nat.lt_of_lt_of_le h2 hb.size, h3.block (hb.block g h4.ge.2), L, h4.below hb, h5⟩
theorem RefW.v {B : Nat} {w : World} {g gA : Nat} {d : DD} (h : RefW B w g gA d) : RefV w (.pointer (some ⟨g, 0, none⟩)) (some d) := by
  obtain ⟨-, -, -, L, h1, h2, _⟩ := h
  exact ⟨g, L, _, rfl, h1.at_, h2⟩
def RWrtSaid (B : Nat) (w : World) (g gA : Nat) (r : Int) (d : DD) (e : Ending) (w' : World) : Prop := e = .returned (.int .u32 r) ∧ RefW B w' g gA d ∧ Fr (fun k => k = g ∨ k = gA) w w' ∧ Keep8 w w'
set_option maxRecDepth 100000 in
set_option maxHeartbeats 2000000 in
theorem rwrite_any (B g gA : Nat) (d : DD) (hd : Good d) (i s : Int) (A : Option Addr) (c : Nat) (b : List Int) (w : World) (h : RefW B w g gA d) (hb : ArgV w (.slice A b.length c) b) :
    Calls Tryd.prog 88 #[.pointer (some ⟨g, 0, none⟩), pl i s, .slice A b.length c] w (RWrtSaid B w g gA (mayW (some d) i s b).2 (wrtC d i s b)) := by
  obtain ⟨hgA, hgl, hrw, L, hr, hro, hs⟩ := h
  have HRW := Aside0.mk (And.intro hgA (And.intro hgl hrw))
  clear hgA hgl hrw
  have hb0 : Below w.heap.size w (w.alloc (.cells #[.int .u16 i, .int .u8 s] 33)) := below_alloc (Below.refl _ _) _
  have HB0 := Aside0.mk hb0
  have HMAY := Aside0.mk (rmayw_any g L d.c d hro i s A c b _ (hr.below hb0).at_ ((argv_arg hb).below hb0) (hd.find i s))
  have HP := Aside0.mk (blk_new w (.cells #[.int .u16 i, .int .u8 s] 33))
  have HR := Aside0.mk hr
  have HRO := Aside0.mk hro
  have HS := Aside0.mk hs
  have HV := Aside0.mk hb
  by_cases h0 : (mayW (some d) i s b).2 = 0
  · obtain ⟨x, hx, -, -, hm⟩ := mayW_0 h0
    have hw : wrtC d i s b = d.put x b := by
      unfold wrtC
      rw [if_pos h0, hx]
      rfl
    rw [hw, h0]
    rw [hm] at HMAY
    have HX := Aside0.mk hx
    obtain ⟨n, hn⟩ : ∃ n, b.length = n := ⟨_, rfl⟩
    have HN := Aside0.mk hn
    rw [hn] at HMAY ⊢
    clear hr hro hs hb h0 hx hm hw hb0 hn
    go_enter Tryd.func88, Tryd.ntmps88
    have p0 := Go.Proofs.YtokebpeplopjhaaDoorW.PrintWords.blk_cell HP.out 0
    have p1 := Go.Proofs.YtokebpeplopjhaaDoorW.PrintWords.blk_cell HP.out 1
    go_wp2_with (first
      | (go_at_call 87; refine HMAY.out.mono ?_; rintro e w1 ⟨rfl, hb1⟩; have HB1 := Aside0.mk (HB0.out.trans (hb1.mono HB0.out.size)); have p10 := Go.Proofs.YtokebpeplopjhaaDoorW.PrintWords.blk_cell (blk_below HP.out hb1) 0; have p11 := Go.Proofs.YtokebpeplopjhaaDoorW.PrintWords.blk_cell (blk_below HP.out hb1) 1; clear hb1)
      | (go_at_call 123; refine (rat_yes g L d.c d HRO.out i s x HX.out w1 (HR.out.below HB1.out).at_).mono ?_; rintro e w2 ⟨k, hk, rfl, hb2⟩; have HB2 := Aside0.mk (HB1.out.trans (hb2.mono HB1.out.size)); have HK := Aside0.mk hk; clear hb2 hk)
      | (go_at_call 126; rw [← HN.out]; refine (rput_any B g gA L d.c k x A c b w2 (HR.out.below HB2.out) (HRW.out.2.2.block (HB2.out.block g HR.out.ge.2)) HK.out (HV.out.below HB2.out)).mono ?_; rw [HN.out]; rintro e w3 ⟨rfl, h1, h2, h3, h4⟩; have H1 := Aside0.mk h1; have H2 := Aside0.mk h2; have H3 := Aside0.mk h3; have H4 := Aside0.mk h4; clear h1 h2 h3 h4))
    go_ret
    exact ⟨rfl, ⟨HRW.out.1, Nat.lt_of_lt_of_le HRW.out.2.1 (Nat.le_trans HB2.out.size H2.out.size), H4.out, _, H1.out, HRO.out.put b HS.out HK.out, HS.out.set b HK.out⟩, (Fr.of_below HB2.out).trans H2.out, (Keep8.below HB2.out).trans H3.out⟩
  · have hw : wrtC d i s b = d := by
      unfold wrtC
      rw [if_neg h0]
    rw [hw]
    obtain ⟨⟨t1, t2⟩, hm⟩ : ∃ q, mayW (some d) i s b = q := ⟨_, rfl⟩
    rw [hm] at HMAY h0 ⊢
    simp only at h0
    have f1 : (t2 == 0) = false := by simpa using h0
    generalize b.length = n at HMAY ⊢
    clear hr hro hs hb hm hw hb0
    go_enter Tryd.func88, Tryd.ntmps88
    have p0 := Go.Proofs.YtokebpeplopjhaaDoorW.PrintWords.blk_cell HP.out 0
    have p1 := Go.Proofs.YtokebpeplopjhaaDoorW.PrintWords.blk_cell HP.out 1
    go_wp2_with (go_at_call 87; go_loud (refine HMAY.out.mono ?_; rintro e w1 ⟨rfl, hb1⟩; have HB1 := Aside0.mk (HB0.out.trans (hb1.mono HB0.out.size)); clear hb1))
    go_ret
    exact ⟨rfl, RefW.below ⟨HRW.out.1, HRW.out.2.1, HRW.out.2.2, L, HR.out, HRO.out, HS.out⟩ HB1.out, Fr.of_below HB1.out, Keep8.below HB1.out⟩
/-- What the document's Write of a mapping leaves. -/
theorem rvl_at {w : World} {base : Nat} {v : Value} {xs : List Vl} (h : Kd.R kV 71 w base (fun _ => True) v xs) (k : Nat) (hk : k < xs.length) (hok : VlOk (xs[k]?.getD zVl)) :
    ∃ g cap A c, v = .slice (some ⟨g, 0, none⟩) xs.length cap ∧ w.cell? ⟨g, k * 3, none⟩ = some (.int .u16 (xs[k]?.getD zVl).1.1) ∧ w.cell? ⟨g, k * 3 + 1, none⟩ = some (.int .u8 (xs[k]?.getD zVl).1.2) ∧ w.cell? ⟨g, k * 3 + 2, none⟩ = some (.slice A (xs[k]?.getD zVl).2.length c) ∧ ArgV w (.slice A (xs[k]?.getD zVl).2.length c) (xs[k]?.getD zVl).2 := by
  obtain ⟨g, cap, rfl, -, -, -⟩ := Kd.R_form h (by omega)
  obtain ⟨c, _, hM, hc, _⟩ := Kd.R_elem h zVl (k : Int) (by omega) (by omega)
  rw [Int.toNat_natCast, List.getD_eq_getElem?_getD] at hM
  rw [Int.toNat_natCast] at hc
  obtain ⟨_, _, rfl, ⟨_, _, rfl, rfl, rfl⟩, ⟨v2, rfl, hR⟩⟩ := hM
  have ha := ArgV.of_R hR hok.2.2.1 (by have := hok.2.2.2; omega)
  obtain ⟨A, c2, rfl, h2⟩ := ha
  exact ⟨g, cap, A, c2, rfl, hc 0 _ rfl, hc 1 _ rfl, hc 2 _ rfl, ⟨A, c2, rfl, h2⟩⟩
set_option maxRecDepth 100000 in
set_option maxHeartbeats 4000000 in
theorem rmwrite_any (B g gA : Nat) (d : DD) (hd : Good d) (l : List Mp) (A : Option Addr) (c : Nat) (Ab : Option Addr) (cb : Nat) (b : List Int) (w : World) (h : RefW B w g gA d) (hm : MsAt w A l) (hl : l.length ≤ 1000000) (hmw : ∀ m ∈ l, m.Wf) (hb : Arg w Ab cb b) :
    Calls Tryd.prog 37 #[.pointer (some ⟨g, 0, none⟩), .slice A l.length c, .slice Ab b.length cb] w (RWrtSaid B w g gA (unpackC (some d) l b).2 (writesC d (unpackC (some d) l b).1)) := by
  have HUN := Aside0.mk (runpack_any (.pointer (some ⟨g, 0, none⟩)) (some d) l A c Ab cb b w h.v hm hl hmw hd.find hb)
  obtain ⟨hok, hlen⟩ := unpack_ok (o := some d) (b := b) hmw
  obtain ⟨⟨xs, q⟩, hq⟩ : ∃ q, unpackC (some d) l b = q := ⟨_, rfl⟩
  rw [hq] at HUN hok hlen ⊢
  simp only at HUN hok hlen ⊢
  have HOK := Aside0.mk hok
  have HD := Aside0.mk h
  have HG := Aside0.mk hd
  have hgl : g < w.heap.size ∧ gA < w.heap.size := ⟨h.2.2.2.choose_spec.1.ge.2, h.2.1⟩
  have hxl : xs.length ≤ 1000000 := by omega
  clear hok h hm hb hd hq hlen hmw
  go_enter Tryd.func37, Tryd.ntmps37
  go_wp2_with (go_at_call 36; refine HUN.out.mono ?_; rintro e w1 ⟨v1, base, rfl, hbase, hR, hb1⟩; have HR1 := Aside0.mk hR; obtain ⟨A2, c2, rfl, -, -⟩ := Kd.R_reads hR; have HB1 := Aside0.mk hb1; have HBS := Aside0.mk hbase; clear hR hb1 hbase)
  obtain ⟨n, hn⟩ : ∃ n, xs.length = n := ⟨_, rfl⟩
  have HN := Aside0.mk hn
  rw [hn] at HR1 hxl ⊢
  go_loopw [9] (fun i wr => ∃ (k : Nat), k ≤ n ∧ i = .int .i64 k ∧ Aside0 (RefW B wr g gA (writesC d (xs.take k))) ∧ Aside0 (Kd.R kV 71 wr base (fun _ => True) (.slice A2 n c2) xs) ∧ Aside0 (Fr (fun k => k = g ∨ k = gA) w wr ∧ Keep8 w wr)) (fun i _ => n - (intOf i).toNat)
  case atStart => exact ⟨0, Nat.zero_le _, rfl, ⟨HD.out.below HB1.out⟩, HR1, ⟨Fr.of_below HB1.out, Keep8.below HB1.out⟩⟩
  case round =>
    clear hn
    obtain ⟨k, hk, rfl, HDK, HRK, HF⟩ := hrel
    by_cases hlt : k < n
    · have hkx : k < xs.length := by rw [HN.out]; exact hlt
      have hmem : xs[k]?.getD zVl ∈ xs := by
        rw [List.getElem?_eq_getElem hkx]
        exact List.getElem_mem hkx
      have hok := HOK.out _ hmem
      obtain ⟨gv, cap, A3, c3, hv, y0, y1, y2, ha⟩ := rvl_at HRK.out k hkx hok
      rw [HN.out] at hv
      injection hv with hv1 _ hv2
      subst hv1 hv2
      have htk : xs.take (k + 1) = xs.take k ++ [xs[k]?.getD zVl] := by rw [List.take_add_one, List.getElem?_eq_getElem hkx]; rfl
      have HTK := Aside0.mk htk
      have HGK := Aside0.mk (good_writes HG.out (fun y hy => HOK.out y (List.mem_of_mem_take hy)) : Good (writesC d (xs.take k)))
      generalize xs[k]?.getD zVl = x at *
      obtain ⟨⟨ix, sub⟩, zs⟩ := x
      simp only at y0 y1 y2 ha hok
      have HA := Aside0.mk ha
      have hi1 : (k : Int) < (n : Int) := by omega
      have z0 : wr.drew.cell? ⟨gv, k * 3, none⟩ = some (.int .u16 ix) := y0
      have z1 : wr.drew.cell? ⟨gv, k * 3 + 1, none⟩ = some (.int .u8 sub) := y1
      have z2 : wr.drew.cell? ⟨gv, k * 3 + 2, none⟩ = some (.slice A3 zs.length c3) := y2
      clear htk hmem ha y0 y1 y2
      go_wp2
      go_still_tail 11, (by kernel_rfl)
      change wpList _ _ _ _ _ wr.drew
      have hS0 : Below wr.heap.size wr wr.drew := below_drew (Below.refl _ _)
      have HS0 := Aside0.mk hS0
      clear z0 z1 z2
      generalize wr.drew = W2 at HS0 ⊢
      clear hS0
      go_wp2_with (go_at_call 88; go_loud (refine (rwrite_any B g gA (writesC d (xs.take k)) HGK.out ix sub A3 c3 zs W2 (HDK.out.below HS0.out) (HA.out.below HS0.out)).mono ?_; rintro e w3 ⟨rfl, h1, h2, h3⟩; have H1 := Aside0.mk h1; have H2 := Aside0.mk h2; have H3 := Aside0.mk h3; clear h1 h2 h3))
      go_roundw
      case rel =>
        refine ⟨k + 1, by omega, by go_num, ⟨?_⟩, ⟨R_fr (Kd.R_below HRK.out HS0.out) H2.out (fun jj hj e => ?_)⟩, ⟨HF.out.1.trans ((Fr.of_below HS0.out).trans H2.out), HF.out.2.trans ((Keep8.below HS0.out).trans H3.out)⟩⟩
        · rw [HTK.out]
          unfold writesC
          rw [List.foldl_append]
          exact H1.out
        · have := HBS.out
          rcases e with e | e <;> omega
      case measure => simp [intOf]; omega
    · obtain rfl : k = n := by omega
      have hz : xs.take k = xs := List.take_of_length_le (by rw [HN.out]; exact Nat.le_refl _)
      have hdk := HDK.out
      rw [hz] at hdk
      have hi1 : ¬ (k : Int) < (k : Int) := by omega
      go_wp2
      go_ret
      exact ⟨rfl, hdk, HF.out⟩
end Go.Proofs.YtokebpeplopjhaaDoor.Mp
