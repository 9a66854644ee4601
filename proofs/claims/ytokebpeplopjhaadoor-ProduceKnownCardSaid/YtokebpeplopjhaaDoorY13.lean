/- A dictionary whose rows lie off a block; put and Write keep it so. Producers: Set, of an object that is off. -/
import Derived.Test.YtokebpeplopjhaaDoorY12
import Derived.Deep.RegionHeld3
import Derived.StillTailTactics
import Derived.Deep.MidRow
namespace Go.Proofs.YtokebpeplopjhaaDoor.Mp
open Go.RowKit Go.Shelf Go.Proofs.YtokebpeplopjhaaDoor.Rng Go.Proofs.YtokebpeplopjhaaDoorW.PrintWords Go.Proofs.YtokebpeplopjhaaDoorW.PrintMore Go.Proofs.YtokebpeplopjhaaDoorW.PrintLast

/-- An item whose rows lie off a block. -/
def ItG (kk : Nat) (w : World) (v : Value) (x : It) : Prop := ∃ v1 v2 v3 v4, v = .agg #[.int .u16 x.ix, .int .u8 x.sub, .string x.name, .int .u8 x.ty, .int .u8 x.rt, v1, v2, v3, .int .u8 x.tag, .int .u8 x.grp, v4] ∧ ArgN kk w v1 x.df ∧ ArgN kk w v2 x.lo ∧ ArgN kk w v3 x.hi ∧ ArgN kk w v4 x.val
theorem ItG.itv {kk : Nat} {w : World} {v : Value} {x : It} (h : ItG kk w v x) : ItV w v x := by
  obtain ⟨v1, v2, v3, v4, e, h1, h2, h3, h4⟩ := h
  exact ⟨v1, v2, v3, v4, e, h1.argv, h2.argv, h3.argv, h4.argv⟩
theorem ItG.below {kk : Nat} {w w' : World} {v : Value} {x : It} (h : ItG kk w v x) (hb : Below w.heap.size w w') : ItG kk w' v x := by
  obtain ⟨v1, v2, v3, v4, e, h1, h2, h3, h4⟩ := h
  exact ⟨v1, v2, v3, v4, e, h1.below hb, h2.below hb, h3.below hb, h4.below hb⟩
theorem ItG.fr {M : Nat → Prop} {kk : Nat} {w w' : World} {v : Value} {x : It} (h : ItG kk w v x) (hf : Fr M w w') (hM : NoByte w M) : ItG kk w' v x := by
  obtain ⟨v1, v2, v3, v4, e, h1, h2, h3, h4⟩ := h
  exact ⟨v1, v2, v3, v4, e, h1.frM hf hM, h2.frM hf hM, h3.frM hf hM, h4.frM hf hM⟩
theorem ItG.set {kk : Nat} {w w' : World} {v : Value} {x : It} (h : ItG kk w v x) (hf : Fr (fun k => k = kk) w w') : ItG kk w' v x := by
  obtain ⟨v1, v2, v3, v4, e, h1, h2, h3, h4⟩ := h
  exact ⟨v1, v2, v3, v4, e, h1.set hf, h2.set hf, h3.set hf, h4.set hf⟩
theorem ItV.toG {kk : Nat} {w : World} {v : Value} {x : It} (h : ItV w v x) (hk : w.heap.size ≤ kk) : ItG kk w v x := by
  obtain ⟨v1, v2, v3, v4, e, h1, h2, h3, h4⟩ := h
  exact ⟨v1, v2, v3, v4, e, h1.toN hk, h2.toN hk, h3.toN hk, h4.toN hk⟩
structure DictGAt (kk B : Nat) (w : World) (g : Nat) (d : DD) (bi bs n m : Nat) (fi fs : Value → Option Value) : Prop where
  at_ : DictAt B w g d bi bs n m fi fs
  off : ∀ i s x v, 0 ≤ i ∧ i < 65536 → 0 ≤ s ∧ s < 256 → d.D i s = some x → fi (pl i s) = some v → ItG kk w v x
def DictG (kk B : Nat) (w : World) (g bi bs : Nat) (d : DD) : Prop := ∃ n m fi fs, DictGAt kk B w g d bi bs n m fi fs
theorem DictG.dictB {kk B : Nat} {w : World} {g bi bs : Nat} {d : DD} (h : DictG kk B w g bi bs d) : DictB B w g bi bs d := by
  obtain ⟨n, m, fi, fs, h⟩ := h
  exact ⟨n, m, fi, fs, h.at_⟩
theorem DictGAt.below {kk B : Nat} {w w' : World} {g : Nat} {d : DD} {bi bs n m : Nat} {fi fs : Value → Option Value} (h : DictGAt kk B w g d bi bs n m fi fs) (hb : Below w.heap.size w w') : DictGAt kk B w' g d bi bs n m fi fs :=
  ⟨h.at_.below hb, fun i s x v hi hs hx hv => (h.off i s x v hi hs hx hv).below hb⟩
theorem DictG.below {kk B : Nat} {w w' : World} {g bi bs : Nat} {d : DD} (h : DictG kk B w g bi bs d) (hb : Below w.heap.size w w') : DictG kk B w' g bi bs d := by
  obtain ⟨n, m, fi, fs, h⟩ := h
  exact ⟨n, m, fi, fs, h.below hb⟩
theorem DictB.toG {kk B : Nat} {w : World} {g bi bs : Nat} {d : DD} (h : DictB B w g bi bs d) (hk : w.heap.size ≤ kk) : DictG kk B w g bi bs d := by
  obtain ⟨n, m, fi, fs, h⟩ := h
  refine ⟨n, m, fi, fs, h, fun i s x v hi hs hx hv => ?_⟩
  obtain ⟨v', e1, e2⟩ := h.yes i s x hi hs hx
  rw [hv] at e1
  injection e1 with e1
  subst e1
  exact e2.toG hk
/-- A store into that very block. -/
theorem DictG.set {kk B : Nat} {w w' : World} {g bi bs : Nat} {d : DD} (h : DictG kk B w g bi bs d) (hf : Fr (fun k => k = kk) w w') (hne : g ≠ kk ∧ bi ≠ kk ∧ bs ≠ kk) : DictG kk B w' g bi bs d := by
  obtain ⟨n, m, fi, fs, h, ho⟩ := h
  refine ⟨n, m, fi, fs, ⟨(hf.block g (blk_lt h.blk) hne.1).trans h.blk, h.base, h.items.block (hf.block bi h.items.lt hne.2.1), h.subs.block (hf.block bs h.subs.lt hne.2.2), h.no, fun i s x hi hs hx => ?_, h.count⟩, fun i s x v hi hs hx hv => (ho i s x v hi hs hx hv).set hf⟩
  obtain ⟨v, e1, e2⟩ := h.yes i s x hi hs hx
  exact ⟨v, e1, ((ho i s x v hi hs hx e1).set hf).itv⟩
theorem DictGAt.look {kk B : Nat} {w : World} {g : Nat} {d : DD} {bi bs n m : Nat} {fi fs : Value → Option Value} (h : DictGAt kk B w g d bi bs n m fi fs) {i s : Int} (hi : 0 ≤ i ∧ i < 65536) (hs : 0 ≤ s ∧ s < 256) {x : It} (hx : d.D i s = some x) :
    ∃ v, ItG kk w v x ∧ ∀ c W, Below w.heap.size w W → (Instr.lookup 122 (.map (some bi)) (pl i s) c).run Tryd.prog W = .ok (if c then .tuple #[v, .bool true] else v) W := by
  obtain ⟨kl, hk⟩ := key_pl hi hs
  have hz : ∀ W, (zeroValue 128).run Tryd.prog W = .ok (.agg #[.int .u16 0, .int .u8 0, .string ByteArray.empty, .int .u8 0, .int .u8 0, .slice none 0 0, .slice none 0 0, .slice none 0 0, .int .u8 0, .int .u8 0, .slice none 0 0]) W := fun W => by kernel_rfl
  obtain ⟨v, h1, h2⟩ := h.at_.yes i s x hi hs hx
  refine ⟨v, h.off i s x v hi hs hx h1, fun c W hW => ?_⟩
  have h3 := (h.at_.items.below hW).look law_pl Tryd.underlying122 (hz W) hk c
  rw [h1] at h3
  exact h3
/-- A store into the map of items. -/
theorem DictGAt.store {kk B : Nat} {w : World} {g : Nat} {d : DD} {bi bs n m : Nat} {fi fs : Value → Option Value} (hh : DictGAt kk B w g d bi bs n m fi fs) {i s : Int} (hi : 0 ≤ i ∧ i < 65536) (hs : 0 ≤ s ∧ s < 256) (v : Value) (x : It) (hv : ItG kk w v x) :
    ∃ o, (Instr.mapUpdate 122 (.map (some bi)) (pl i s) v).run Tryd.prog w = .ok () (ChangeMaps.setBlock w bi o) ∧
      ∃ f', DictGAt kk B (ChangeMaps.setBlock w bi o) g ⟨fun i' s' => if i' = i ∧ s' = s then some x else d.D i' s', d.S, d.c⟩ bi bs (n + 1) m f' fs ∧ Fr (fun k => k = bi) w (ChangeMaps.setBlock w bi o) := by
  have h := hh.at_
  obtain ⟨kl, hk⟩ := key_pl hi hs
  obtain ⟨f', hf1, hf2⟩ : ∃ f' : Value → Option Value, f' (pl i s) = some v ∧ ∀ y, y ≠ pl i s → f' y = fi y := by
    classical
    exact ⟨fun y => if y = pl i s then some v else fi y, by simp, fun y hy => by simp [hy]⟩
  obtain ⟨o, h1, h2⟩ := h.items.put law_pl Tryd.underlying122 hk v hf1 hf2
  have hfr : Fr (fun k => k = bi) w (ChangeMaps.setBlock w bi o) := ⟨rfl, rfl, rfl, by simp [ChangeMaps.setBlock], fun k hk hm => by
    simp only [ChangeMaps.setBlock]
    rw [Array.getElem?_setIfInBounds_ne (fun e => hm e.symm)]⟩
  have hgb : g ≠ bi := by
    intro e
    have hb := h.blk
    obtain ⟨es, clock, he, _⟩ := h.items
    rw [e, he] at hb
    cases hb
  have hnb : NoByte w (fun k => k = bi) := fun p y hp => h.noByte p y (.inr hp)
  refine ⟨o, h1, f', ⟨⟨?_, h.base, h2, ?_, ?_, ?_, h.count⟩, ?_⟩, hfr⟩
  · exact (hfr.block g (blk_lt h.blk) hgb).trans h.blk
  · exact h.subs.block (hfr.block bs h.subs.lt (fun e => h.base.2.2.2 e.symm))
  · intro i' s' hi' hs' hd
    by_cases e : i' = i ∧ s' = s
    · simp [e] at hd
    · simp only [e, if_false] at hd
      rw [hf2 _ (fun e2 => e (pl_inj e2))]
      exact h.no i' s' hi' hs' hd
  · intro i' s' y hi' hs' hd
    by_cases e : i' = i ∧ s' = s
    · simp only [e, and_self, if_true, Option.some.injEq] at hd
      subst hd
      obtain ⟨rfl, rfl⟩ := e
      exact ⟨v, hf1, (hv.fr hfr hnb).itv⟩
    · simp only [e, if_false] at hd
      obtain ⟨u, hu1, hu2⟩ := h.yes i' s' y hi' hs' hd
      exact ⟨u, by rw [hf2 _ (fun e2 => e (pl_inj e2))]; exact hu1, hu2.fr hfr hnb⟩
  · intro i' s' y u hi' hs' hd hu
    by_cases e : i' = i ∧ s' = s
    · simp only [e, and_self, if_true, Option.some.injEq] at hd
      subst hd
      obtain ⟨rfl, rfl⟩ := e
      rw [hf1] at hu
      injection hu with hu
      subst hu
      exact hv.fr hfr hnb
    · simp only [e, if_false] at hd
      rw [hf2 _ (fun e2 => e (pl_inj e2))] at hu
      exact (hh.off i' s' y u hi' hs' hd hu).fr hfr hnb
/-- The count of changes. -/
theorem DictGAt.count_ {kk B : Nat} {w : World} {g : Nat} {d : DD} {bi bs n m : Nat} {fi fs : Value → Option Value} (hh : DictGAt kk B w g d bi bs n m fi fs) (c : Int) :
    DictGAt kk B (w.setCell ⟨g, 2, none⟩ (.int .i64 c)) g ⟨d.D, d.S, c⟩ bi bs n m fi fs ∧ Fr (fun k => k = g) w (w.setCell ⟨g, 2, none⟩ (.int .i64 c)) := by
  obtain ⟨h1, h2⟩ := hh.at_.count_ c
  exact ⟨⟨h1, fun i s x v hi hs hx hv => (hh.off i s x v hi hs hx hv).fr h2 (fun p y hp => hh.at_.noByte p y (.inl hp))⟩, h2⟩
/-- What put leaves. -/
def PutSaidG (kk B : Nat) (w : World) (g bi bs : Nat) (d : DD) (e : Ending) (w' : World) : Prop := e = .returned (.tuple #[]) ∧ DictG kk B w' g bi bs d ∧ Fr (fun k => k = g ∨ k = bi) w w'
set_option maxRecDepth 100000 in
set_option maxHeartbeats 2000000 in
theorem put_anyG (kk B g bi bs : Nat) (d : DD) (x : It) (hx : x.Wf) (v : Value) (A : Option Addr) (c : Nat) (b : List Int) (w : World) (h : DictG kk B w g bi bs d) (hkk : kk ≤ w.heap.size) (hv : ItG kk w v x) (hb : ArgV w (.slice A b.length c) b) :
    Calls Tryd.prog 73 #[.pointer (some ⟨g, 0, none⟩), v, .slice A b.length c] w (PutSaidG kk B w g bi bs (d.put x b)) := by
  obtain ⟨n, m, fi, fs, h⟩ := h
  obtain ⟨v1, v2, v3, v4, rfl, ⟨A1, a1, rfl, h1⟩, ⟨A2, a2, rfl, h2⟩, ⟨A3, a3, rfl, h3⟩, ⟨A4, a4, rfl, h4⟩⟩ := hv
  have HC := Aside0.mk fun W (hW : Below w.heap.size w W) => clone_arg A c b W (hb.below hW)
  have HD := Aside0.mk h
  have HI := Aside0.mk (And.intro h1 (And.intro h2 h3))
  have HKK := Aside0.mk hkk
  have hix := hx.ix
  have hsub := hx.sub
  clear hb h h1 h2 h3 h4 hkk
  go_enter Tryd.func73, Tryd.ntmps73
  go_wp2_with (go_at_call 77; refine (HC.out _ (below_alloc (Below.refl _ _) _)).mono ?_; rintro e w1 ⟨v5, rfl, hR, hA, hb⟩; have HA := Aside0.mk hA; obtain ⟨A5, a5, rfl, -⟩ := hA; have hrow := blk_below (blk_new w (.cells #[.int .u16 x.ix, .int .u8 x.sub, .string x.name, .int .u8 x.ty, .int .u8 x.rt, .slice A1 x.df.length a1, .slice A2 x.lo.length a2, .slice A3 x.hi.length a3, .int .u8 x.tag, .int .u8 x.grp, .slice A4 x.val.length a4] 128)) hb; have HROW := Aside0.mk hrow; obtain ⟨c0, c1, c2, c3, c4, c5, c6, c7, c8, c9, c10, cf⟩ := held11 hrow; have HB := Aside0.mk (below_step (below_alloc (Below.refl w.heap.size w) _) hb); have HOF := Aside0.mk (R_off (k := w.heap.size) hR (by simp)); have HOK := Aside0.mk (R_off (k := kk) hR (by simp; have := HKK.out; omega)); clear hR hb hrow)
  obtain ⟨W2, hW2⟩ : ∃ W2, w1.setCell ⟨w.heap.size, 10, none⟩ (.slice A5 b.length a5) = W2 := ⟨_, rfl⟩
  have hb2 : Below w.heap.size w W2 := hW2 ▸ HB.out.setCell (p := ⟨w.heap.size, 10, none⟩) (Nat.le_refl _) _
  have f2 : Fr (fun k => k = w.heap.size) w1 W2 := hW2 ▸ Fr.setCell _ _ _ (.inl rfl)
  have hrow2 := blk_put HROW.out 10 (.slice A5 b.length a5) rfl
  simp only [List.setIfInBounds_toArray, List.set_cons_succ, List.set_cons_zero] at hrow2
  rw [hW2] at hrow2 ⊢
  have hA5 : ArgN kk W2 (.slice A5 b.length a5) b := by
    obtain ⟨A', c', e, q1, q2⟩ := HA.out
    injection e with e1 e2 e3
    subst e1 e3
    exact ⟨A5, a5, rfl, ⟨q1.rd.fr f2 HOF.out, q1.byt, q1.le, q1.cap⟩, q2, fun ad e hn => HOK.out ad e hn⟩
  have hI2 : ∀ {A a l}, (Arg w A a l ∧ l.length ≤ 140737488355328 ∧ ∀ ad, A = some ad → 0 < l.length → ad.block ≠ kk) → ArgN kk W2 (.slice A l.length a) l := fun h => ArgN.below (w := w) ⟨_, _, rfl, h⟩ hb2
  have hit : ItG kk W2.drew (.agg #[.int .u16 x.ix, .int .u8 x.sub, .string x.name, .int .u8 x.ty, .int .u8 x.rt, .slice A1 x.df.length a1, .slice A2 x.lo.length a2, .slice A3 x.hi.length a3, .int .u8 x.tag, .int .u8 x.grp, .slice A5 b.length a5]) { x with val := b } :=
    ItG.below (w := W2) ⟨_, _, _, _, rfl, hI2 HI.out.1, hI2 HI.out.2.1, hI2 HI.out.2.2, hA5⟩ (Below.refl _ _).drew
  obtain ⟨o, hrun, f', hD3, hF3⟩ := ((HD.out.below hb2).below (Below.refl W2.heap.size W2).drew).store hix hsub _ _ hit
  have hF4 : Fr (fun k => k = bi) W2 (ChangeMaps.setBlock W2.drew bi o) := (Fr.drew _ _).trans hF3
  have hblk3 := hD3.at_.blk
  generalize ChangeMaps.setBlock W2.drew bi o = W3 at hrun hD3 hF4 hblk3
  have hbi : bi < w.heap.size := HD.out.at_.items.lt
  have hg : g < w.heap.size := blk_lt HD.out.at_.blk
  have hgb : g ≠ bi := by
    intro e
    have hb := HD.out.at_.blk
    obtain ⟨es, clock, he, _⟩ := HD.out.at_.items
    rw [e, he] at hb
    cases hb
  have hg2 := (HD.out.below hb2).at_.blk
  have cg : ∀ X, Fr (fun k => k = bi) W2 X → X.cell? ⟨g, 0, none⟩ = some (.map (some bi)) := fun X hX => hX.cell (blk_cell hg2 0) hgb
  have K : ∀ X, Fr (fun k => k = bi) W2 X → X.heap[w.heap.size]? = _ := fun X hX => (hX.block _ (blk_lt hrow2) (by omega)).trans hrow2
  have d0 := fun X hX => (held11 (K X hX)).1
  have d1 := fun X hX => (held11 (K X hX)).2.1
  have d2 := fun X hX => (held11 (K X hX)).2.2.1
  have d3 := fun X hX => (held11 (K X hX)).2.2.2.1
  have d4 := fun X hX => (held11 (K X hX)).2.2.2.2.1
  have d5 := fun X hX => (held11 (K X hX)).2.2.2.2.2.1
  have d6 := fun X hX => (held11 (K X hX)).2.2.2.2.2.2.1
  have d7 := fun X hX => (held11 (K X hX)).2.2.2.2.2.2.2.1
  have d8 := fun X hX => (held11 (K X hX)).2.2.2.2.2.2.2.2.1
  have d9 := fun X hX => (held11 (K X hX)).2.2.2.2.2.2.2.2.2.1
  have d10 := fun X hX => (held11 (K X hX)).2.2.2.2.2.2.2.2.2.2.1
  have hS0 : Fr (fun k => k = bi) W2 W2.drew := Fr.drew _ _
  have HF4 := Aside0.mk hF4
  have HD3 := Aside0.mk hD3
  have HF2 := Aside0.mk (Fr.of_below (M := fun k => k = g ∨ k = bi) hb2)
  have HGB := Aside0.mk hgb
  clear hW2 hb2 f2 hrow2 hA5 hI2 hit hD3 hF3 hbi hg hgb hg2 K c0 c1 c2 c3 c4 c5 c6 c7 c8 c9 c10 cf hix hsub
  go_region_held3 (fun X => Fr (fun k => k = bi) W2 X) (first | assumption | exact HF4.out)
    (fail)
  have e2 := blk_cell hblk3 2
  have ef := fun j => blk_frozen hblk3 j
  clear d0 d1 d2 d3 d4 d5 d6 d7 d8 d9 d10 cg hrun hS0
  simp at e2
  go_wp2
  go_end0
  obtain ⟨q1, q2⟩ := HD3.out.count_ (wrap64 (d.c + 1))
  have ew : wrap64 (d.c + 1) = IntKind.i64.wrap (d.c + 1) := (i64_w _).symm
  have ed : d.put x b = ⟨fun i' s' => if i' = x.ix ∧ s' = x.sub then some { x with val := b } else d.D i' s', d.S, wrap64 (d.c + 1)⟩ := by rw [ew]; rfl
  rw [ed]
  exact ⟨rfl, ⟨_, _, _, _, q1⟩, (HF2.out.trans (HF4.out.mono (fun k hk => .inr hk))).trans (q2.mono (fun k hk => Or.inl hk))⟩
def WrtSaidG (kk B : Nat) (w : World) (g bi bs : Nat) (r : Int) (d : DD) (e : Ending) (w' : World) : Prop := e = .returned (.int .u32 r) ∧ DictG kk B w' g bi bs d ∧ Fr (fun k => k = g ∨ k = bi) w w'
set_option maxRecDepth 100000 in
set_option maxHeartbeats 1000000 in
theorem write_yesG (kk B g bi bs : Nat) (d : DD) (hd : Good d) (i s : Int) (x : It) (hx : d.D i s = some x) (hi : 0 ≤ i ∧ i < 65536) (hs : 0 ≤ s ∧ s < 256) (A : Option Addr) (c : Nat) (b : List Int) (w : World) (h : DictG kk B w g bi bs d) (hkk : kk ≤ w.heap.size) (ht : Tbl w) (hb : ArgV w (.slice A b.length c) b) (hb' : Arg w A c b)
    (hno : mayW (some d) i s b = (x.tag, 0)) : Calls Tryd.prog 20 #[.pointer (some ⟨g, 0, none⟩), pl i s, .slice A b.length c] w (WrtSaidG kk B w g bi bs 0 (d.put x b)) := by
  have hb0 : Below w.heap.size w (w.alloc (.cells #[.int .u16 i, .int .u8 s] 33)) := below_alloc (Below.refl _ _) _
  have HM := Aside0.mk (may_any B (.pointer (some ⟨g, 0, none⟩)) (some d) i s hi hs A c b _ ⟨g, rfl, h.dictB.dict.below hb0⟩ (ht.below hb0) (hb'.below hb0) (hd.find i s))
  rw [hno] at HM
  have HD := Aside0.mk h
  have HBV := Aside0.mk hb
  have hpl := blk_new w (.cells #[.int .u16 i, .int .u8 s] 33)
  have HPL := Aside0.mk hpl
  have hwf := (hd.it i s x hx).1
  clear h ht hb hb' hno hpl
  go_enter Tryd.func20, Tryd.ntmps20
  go_wp2_with (go_at_call 26; refine HM.out.mono ?_; rintro e w1 ⟨rfl, hb⟩; have HB := Aside0.mk (hb0.trans (hb.mono (by simp))); have hpl1 := blk_below HPL.out hb; clear hb)
  have hb1 : Below w.heap.size w w1.drew := HB.out.drew
  have hd1 : DictG kk B w1.drew g bi bs d := HD.out.below hb1
  have HD1 := Aside0.mk hd1
  obtain ⟨n, m, fi, fs, hda⟩ := hd1
  obtain ⟨v, hv, hl⟩ := hda.look hi hs hx
  have hl1 : (Instr.lookup 122 (.map (some bi)) (pl i s) false).run Tryd.prog w1.drew = .ok v w1.drew := hl false _ (Below.refl _ _)
  have HV := Aside0.mk hv
  have hg0 : w1.cell? ⟨g, 0, none⟩ = some (.map (some bi)) := blk_cell hda.at_.blk 0
  have hp0 := blk_cell hpl1 0
  have hp1 := blk_cell hpl1 1
  have hgw : w.heap.size ≠ g := fun e => by have := blk_lt (HD.out.choose_spec.choose_spec.choose_spec.choose_spec).at_.blk; omega
  have hiw : w.heap.size ≠ bi := fun e => by have := (HD.out.choose_spec.choose_spec.choose_spec.choose_spec).at_.items.lt; omega
  have z0 : ∀ X, Fr (fun k => k = g ∨ k = bi) w1.drew X → X.cell? ⟨w.heap.size, 0, none⟩ = some (.int .u16 i) := fun X hX => hX.cell hp0 (by rintro (e | e); exact hgw e; exact hiw e)
  have z1 : ∀ X, Fr (fun k => k = g ∨ k = bi) w1.drew X → X.cell? ⟨w.heap.size, 1, none⟩ = some (.int .u8 s) := fun X hX => hX.cell hp1 (by rintro (e | e); exact hgw e; exact hiw e)
  have hS0 : Fr (fun k => k = g ∨ k = bi) w1.drew w1.drew ∧ w1.drew.cell? ⟨g, 0, none⟩ = some (.map (some bi)) := ⟨Fr.refl _ _, hg0⟩
  have HBV1 := Aside0.mk (HBV.out.below hb1)
  have HKK1 := Aside0.mk (Nat.le_trans hkk hb1.size)
  have HF1 := Aside0.mk (Fr.of_below (M := fun k => k = g ∨ k = bi) hb1)
  clear hb1 hda hv hl hg0 hp0 hp1 hgw hiw hpl1
  go_region_held3 (fun X => Fr (fun k => k = g ∨ k = bi) w1.drew X ∧ X.cell? ⟨g, 0, none⟩ = some (.map (some bi))) (first | assumption | exact hS0)
    ((go_at_call 73; refine (put_anyG kk B g bi bs d x hwf v A c b _ HD1.out HKK1.out HV.out HBV1.out).mono ?_; rintro e w2 ⟨rfl, hd2, hf2⟩; have HD2 := Aside0.mk hd2; have hS2 : Fr (fun k => k = g ∨ k = bi) w1.drew w2 ∧ w2.cell? ⟨g, 0, none⟩ = some (.map (some bi)) := ⟨hf2, blk_cell (hd2.choose_spec.choose_spec.choose_spec.choose_spec).at_.blk 0⟩; have HF2 := Aside0.mk hf2; clear hd2 hf2))
  go_wp2
  go_ret
  exact ⟨rfl, HD2.out, HF1.out.trans HF2.out⟩
theorem write_anyG (kk B g bi bs : Nat) (d : DD) (hd : Good d) (i s : Int) (hi : 0 ≤ i ∧ i < 65536) (hs : 0 ≤ s ∧ s < 256) (A : Option Addr) (c : Nat) (b : List Int) (w : World) (h : DictG kk B w g bi bs d) (hkk : kk ≤ w.heap.size) (ht : Tbl w) (hb : ArgV w (.slice A b.length c) b) :
    Calls Tryd.prog 20 #[.pointer (some ⟨g, 0, none⟩), pl i s, .slice A b.length c] w (WrtSaidG kk B w g bi bs (mayW (some d) i s b).2 (wrtC d i s b)) := by
  have hb' : Arg w A c b := by
    obtain ⟨A', c', e, q1, q2⟩ := hb
    injection e with e1 e2 e3
    subst e1 e3
    exact q1
  unfold wrtC
  by_cases h0 : (mayW (some d) i s b).2 = 0
  · obtain ⟨x, hx, _, _, hm⟩ := mayW_0 h0
    rw [if_pos h0, h0, hx]
    exact write_yesG kk B g bi bs d hd i s x hx hi hs A c b w h hkk ht hb hb' hm
  · rw [if_neg h0]
    exact (write_no B g bi bs d hd i s hi hs A c b w h.dictB ht hb' h0).mono fun e w' ⟨he, hB⟩ => ⟨he, h.below hB, Fr.of_below hB⟩
end Go.Proofs.YtokebpeplopjhaaDoor.Mp
set_option linter.unusedSimpArgs false
set_option linter.unusedVariables false
namespace Go.Proofs.YtokebpeplopjhaaDoor.Mp
open Go.RowKit Go.Shelf Go.Proofs.YtokebpeplopjhaaDoor.Rng Go.Proofs.YtokebpeplopjhaaDoorW.PrintWords Go.Proofs.YtokebpeplopjhaaDoorW.PrintMore Go.Proofs.YtokebpeplopjhaaDoorW.PrintLast

theorem one13f (id kind inh ev st : Int) (A : Option Addr) (n c : Nat) : ∀ v ∈ ([.bool false, .int .u16 id, .int .u8 kind, .int .i64 inh, .int .i64 ev, .int .u8 st, .slice A n c, .bool false, .slice none 0 0, .int .i64 0, .bool false, .int .i64 0, .bool false] : List Value), v.oneCell' = true := by
  intro v hv
  simp only [List.mem_cons, List.not_mem_nil, or_false] at hv
  rcases hv with rfl | rfl | rfl | rfl | rfl | rfl | rfl | rfl | rfl | rfl | rfl | rfl | rfl <;> rfl
set_option maxRecDepth 100000 in
set_option maxHeartbeats 4000000 in
theorem pset_off (g : Nat) (vd : Value) (os : Nat → Ob) (vm vb : Nat → Value) (goes : Bool) (n0 : Int) (i : Nat) (hi : i < 8) (c : Cm) (l : List Mp) (A : Option Addr) (cc : Nat) (w : World) (h : PrAt w g vd os vm vb goes n0) (hm : MsAt w A l) (hmn : ∀ ad, A = some ad → 0 < l.length → ad.block ≠ g) (hl : l.length ≤ 64) (hc : cmOk c) (hon : c.on = false) :
    Calls Tryd.prog 40 #[.pointer (some ⟨g, 0, none⟩), .int .i64 i, c.v, .slice A l.length cc] w fun e w' => e = .returned (.int .u32 0) ∧ (∃ vm' vb', PrAt w' g vd (upd os i ((setOb c l).begin_ n0)) vm' vb' goes n0) ∧ Fr (fun k => k = g) w w' := by
  have hgl := h.lt
  have HP := Aside0.mk h
  have HM := Aside0.mk hm
  have HMN := Aside0.mk hmn
  have hmay := fun X => pmay_any c X
  rw [decide_eq_true hc] at hmay
  have HMY := Aside0.mk hmay
  have hi0 : (0 : Int) ≤ (i : Int) := by omega
  have hi8 : (i : Int) < 8 := by omega
  have hn8 : ¬ (8 : Int) ≤ (i : Int) := by omega
  obtain ⟨n, hn⟩ : ∃ n, l.length = n := ⟨_, rfl⟩
  have HN := Aside0.mk hn
  have hnl : ¬ (64 : Int) < (n : Int) := by omega
  rw [hn] at hl ⊢
  obtain ⟨on, id, kind, inh, ev, st⟩ := c
  simp only at hon
  subst hon
  have hbx : ∀ o, Below w.heap.size w (w.alloc o) := fun o => below_alloc (Below.refl _ _) _
  have hbox := blk_new w (.cells #[.bool false, .int .u16 id, .int .u8 kind, .int .i64 inh, .int .i64 ev, .int .u8 st] 82)
  have HBOX := Aside0.mk hbox
  have HB0 := Aside0.mk (hbx (.cells #[.bool false, .int .u16 id, .int .u8 kind, .int .i64 inh, .int .i64 ev, .int .u8 st] 82))
  clear h hm hmn hmay hc hn hbox hbx
  go_enter Tryd.func40, Tryd.ntmps40
  go_wp2_with (go_at_call 89; refine (HMY.out _).mono ?_; rintro e w2 ⟨rfl, hb1⟩; have HB2 := Aside0.mk (HB0.out.trans (hb1.mono HB0.out.size)); have hb0 := Go.Proofs.YtokebpeplopjhaaDoorW.PrintWords.blk_cell (blk_below HBOX.out hb1) 0; have HX2 := Aside0.mk (blk_below HBOX.out hb1); clear hb1)
  have hP2 := HP.out.below HB2.out
  have hx2 := HX2.out
  have hneb : w.heap.size ≠ g := by omega
  have hS0 : Fr (fun k => k = g) w2 w2.drew ∧ w2.drew.there g (1 + i * 13) 13 := ⟨Fr.of_below (below_drew (Below.refl _ _)), there_below (hP2.there hi) (below_drew (Below.refl _ _))⟩
  have u0 : ∀ X, (Fr (fun k => k = g) w2 X ∧ X.there g (1 + i * 13) 13) → X.cell? ⟨w.heap.size, 0, none⟩ = some (.bool false) := fun X hX => hX.1.cell (Go.Proofs.YtokebpeplopjhaaDoorW.PrintWords.blk_cell hx2 0) hneb
  have u1 : ∀ X, (Fr (fun k => k = g) w2 X ∧ X.there g (1 + i * 13) 13) → X.cell? ⟨w.heap.size, 1, none⟩ = some (.int .u16 id) := fun X hX => hX.1.cell (Go.Proofs.YtokebpeplopjhaaDoorW.PrintWords.blk_cell hx2 1) hneb
  have u2 : ∀ X, (Fr (fun k => k = g) w2 X ∧ X.there g (1 + i * 13) 13) → X.cell? ⟨w.heap.size, 1 + 1, none⟩ = some (.int .u8 kind) := fun X hX => hX.1.cell (Go.Proofs.YtokebpeplopjhaaDoorW.PrintWords.blk_cell hx2 2) hneb
  have u3 : ∀ X, (Fr (fun k => k = g) w2 X ∧ X.there g (1 + i * 13) 13) → X.cell? ⟨w.heap.size, 1 + 1 + 1, none⟩ = some (.int .i64 inh) := fun X hX => hX.1.cell (Go.Proofs.YtokebpeplopjhaaDoorW.PrintWords.blk_cell hx2 3) hneb
  have u4 : ∀ X, (Fr (fun k => k = g) w2 X ∧ X.there g (1 + i * 13) 13) → X.cell? ⟨w.heap.size, 1 + 1 + 1 + 1, none⟩ = some (.int .i64 ev) := fun X hX => hX.1.cell (Go.Proofs.YtokebpeplopjhaaDoorW.PrintWords.blk_cell hx2 4) hneb
  have u5 : ∀ X, (Fr (fun k => k = g) w2 X ∧ X.there g (1 + i * 13) 13) → X.cell? ⟨w.heap.size, 1 + 1 + 1 + 1 + 1, none⟩ = some (.int .u8 st) := fun X hX => hX.1.cell (Go.Proofs.YtokebpeplopjhaaDoorW.PrintWords.blk_cell hx2 5) hneb
  have HP2 := Aside0.mk hP2
  have HM2 := Aside0.mk (show MsN g w2 (.slice A l.length cc) l from ⟨A, cc, rfl, HM.out.below HB2.out, HMN.out⟩)
  have HCL := Aside0.mk fun (X : World) (hX : Fr (fun k => k = g) w2 X) => mclone_any A cc l X (by obtain ⟨A', c', e, q, -⟩ := HM2.out.set hX; injection e with e1 e2 e3; subst e1; exact q) (by have := HN.out; omega)
  rw [HN.out] at HCL
  clear hP2 hx2
  refine wp_region_held_drew (S := (fun X => Fr (fun k => k = g) w2 X ∧ X.there g (1 + i * 13) 13)) (by kernel_rfl) hS0 (fun hHeld => ?_)
  refine wpAnyH_take (i := 0) (oi := _) (v := ?_) rfl (by kernel_rfl) (by kernel_rfl) (by kernel_rfl) (fun _ _ _ h => h) (Or.inl ⟨rfl, ?_⟩) hHeld ?_
  rotate_left
  · intro w hSw
    try dsimp only at hSw
    go_simp
    try exact rfl
  try simp only [Act.put, List.setIfInBounds_toArray, List.set_cons_zero, List.set_cons_succ]
  refine wpAnyH_take (i := 1) (oi := _) (v := ?_) rfl (by kernel_rfl) (by kernel_rfl) (by kernel_rfl) (fun _ _ _ h => h) (Or.inl ⟨rfl, ?_⟩) hHeld ?_
  rotate_left
  · intro w hSw
    try dsimp only at hSw
    go_simp
    try exact rfl
  try simp only [Act.put, List.setIfInBounds_toArray, List.set_cons_zero, List.set_cons_succ]
  refine wpAnyH_take (i := 2) (oi := _) (v := ?_) rfl (by kernel_rfl) (by kernel_rfl) (by kernel_rfl) (fun _ _ _ h => h) (Or.inl ⟨rfl, ?_⟩) hHeld ?_
  rotate_left
  · intro w hSw
    try dsimp only at hSw
    go_simp
    try exact rfl
  try simp only [Act.put, List.setIfInBounds_toArray, List.set_cons_zero, List.set_cons_succ]
  refine wpAnyH_take (i := 3) (oi := _) (v := ?_) rfl (by kernel_rfl) (by kernel_rfl) (by kernel_rfl) (fun _ _ _ h => h) (Or.inl ⟨rfl, ?_⟩) hHeld ?_
  rotate_left
  · intro w hSw
    try dsimp only at hSw
    go_simp
    try exact rfl
  try simp only [Act.put, List.setIfInBounds_toArray, List.set_cons_zero, List.set_cons_succ]
  refine wpAnyH_take (i := 6) (oi := _) (v := ?_) rfl (by kernel_rfl) (by kernel_rfl) (by kernel_rfl) (fun _ _ _ h => h) (Or.inl ⟨rfl, ?_⟩) hHeld ?_
  rotate_left
  · intro w hSw
    try dsimp only at hSw
    go_simp
    try exact rfl
  try simp only [Act.put, List.setIfInBounds_toArray, List.set_cons_zero, List.set_cons_succ]
  refine wpAnyH_take (i := 7) (oi := _) (v := ?_) rfl (by kernel_rfl) (by kernel_rfl) (by kernel_rfl) (fun _ _ _ h => h) (Or.inl ⟨rfl, ?_⟩) hHeld ?_
  rotate_left
  · intro w hSw
    try dsimp only at hSw
    go_simp
    try exact rfl
  try simp only [Act.put, List.setIfInBounds_toArray, List.set_cons_zero, List.set_cons_succ]
  refine wpAnyH_ready (rs := [4]) (by kernel_rfl) (by simp) ?_
  refine AllReadyH.cons (o := _) rfl (fun K hK => ?_) AllReadyH.nil
  go_simp
  with_reducible refine (HCL.out _ (And.left hHeld)).mono ?_
  rintro e w3 ⟨v3, rfl, hm3, hb3⟩
  obtain ⟨A3, c3, hv3, hms3, hge3⟩ := hm3
  rw [HN.out] at hv3
  subst hv3
  have hS3 := S_step hHeld hb3
  have HS3 := Aside0.mk hS3
  have HM3 := Aside0.mk (And.intro hms3 hge3)
  have HB3 := Aside0.mk hb3
  clear hms3 hge3 hb3
  refine hK.out _ _ hS3 (fun hHeld2 => ?_)
  clear hK K
  try simp only [Act.put, List.setIfInBounds_toArray, List.set_cons_zero, List.set_cons_succ]
  refine wpAnyH_take (i := 5) (oi := { dst := some 45, op := Op.build 155 #[(0, Operand.tmp 42), (1, Operand.tmp 44)], type := 155, pos := _, after := _, guard := none }) (v := ?_) rfl (by kernel_rfl) (by kernel_rfl) (by kernel_rfl) (fun _ _ _ h => h) (Or.inl ⟨rfl, ?_⟩) hHeld2 ?_
  rotate_left
  · intro w hSw
    try dsimp only at hSw
    go_simp
    try exact rfl
  try simp only [Act.put, List.setIfInBounds_toArray, List.set_cons_zero, List.set_cons_succ]
  refine wpAnyH_take (i := 8) (oi := { dst := some 48, op := Op.indexAddr 156 (Operand.tmp 47) (Operand.tmp 41), type := 0, pos := _, after := _, guard := none }) (v := ?_) rfl (by kernel_rfl) (by kernel_rfl) (by kernel_rfl) (fun _ _ _ h => h) (Or.inl ⟨rfl, ?_⟩) hHeld2 ?_
  rotate_left
  · intro w hSw
    try dsimp only at hSw
    go_simp
    try exact rfl
  try simp only [Act.put, List.setIfInBounds_toArray, List.set_cons_zero, List.set_cons_succ]
  refine wpAnyH_ready (rs := [9]) (by kernel_rfl) (by simp) ?_
  refine AllReadyH.cons (o := { dst := none, op := Op.store 155 (Operand.tmp 48) (Operand.tmp 45), type := 0, pos := _, after := _, guard := none }) rfl (fun K hK => ?_) AllReadyH.nil
  rw [if_pos (by rfl)]
  refine wp_store_mid _ _ _ rfl _ _ (List.toArray _) rfl rfl ?_ ?_ (all_oneCell_toArray (one13f id kind inh ev st A3 n c3)) ?_
  · exact hS3.2
  · exact size_ob
  simp only [Act.put, List.setIfInBounds_toArray, List.set_cons_zero, List.set_cons_succ, List.toList_toArray]
  refine hK.out _ _ (S_store hHeld2) (fun hHeld3 => ?_)
  clear hK K
  try simp only [Act.put, List.setIfInBounds_toArray, List.set_cons_zero, List.set_cons_succ]
  refine wpAnyH_done (by kernel_rfl) ?_ _
  have HS4 := Aside0.mk hHeld3
  have HP3 := Aside0.mk (HP2.out.below (below_step (below_drew (Below.refl _ _)) HB3.out))
  have hms3 : MsN g w3 (.slice A3 n c3) l := ⟨A3, c3, by rw [HN.out], HM3.out.1, fun ad e _ he => by have h1 := HM3.out.2 ad e; have h2 := HP2.out.lt; simp at h1; omega⟩
  have HP4 := Aside0.mk (HP3.out.setOb hi ⟨false, id, kind, inh, ev, st⟩ l (.slice A3 n c3) hms3)
  clear hHeld hHeld2 hHeld3 hS3 u0 u1 u2 u3 u4 u5 hms3 hS0
  rw [show (setOb ⟨false, id, kind, inh, ev, st⟩ l).cells (.slice A3 n c3) (.slice none 0 0) = [.bool false, .int .u16 id, .int .u8 kind, .int .i64 inh, .int .i64 ev, .int .u8 st, .slice A3 n c3, .bool false, .slice none 0 0, .int .i64 0, .bool false, .int .i64 0, .bool false] from rfl] at HP4
  generalize w3.setCells g (1 + i * 13) [.bool false, .int .u16 id, .int .u8 kind, .int .i64 inh, .int .i64 ev, .int .u8 st, .slice A3 n c3, .bool false, .slice none 0 0, .int .i64 0, .bool false, .int .i64 0, .bool false] = w4 at HS4 HP4 ⊢
  have hnw : ∀ X, Below w4.heap.size w4 X → X.cell? ⟨g, 106, none⟩ = some (.int .i64 n0) := fun X hX => pw_cell_below hX HP4.out.nw
  have hnw2 := hnw _ (below_drew (Below.refl _ _))
  go_wp2
  go_still_tail 9, (by kernel_rfl)
  change wpList _ _ _ _ _ w4.drew
  have HBG := Aside0.mk (pbegin_any (setOb ⟨false, id, kind, inh, ev, st⟩ l) (.slice A3 n c3) (.slice none 0 0) g (1 + i * 13) n0 w4.drew (fun j u hu => pw_cell_below (below_drew (Below.refl _ _)) (HP4.out.ob i hi j u (by rw [upd_same, upd_same, upd_same]; exact hu))) (fun k => (World.frozen?_of_block rfl).trans (HP4.out.fz k)))
  clear hnw
  go_wp2_with (go_at_call 91; go_loud (refine HBG.out.mono ?_; rintro e w5 ⟨rfl, hw5⟩; have HW5 := Aside0.mk hw5; clear hw5))
  go_ret
  have hP5 := (HP4.out.below (below_drew (Below.refl _ _))).begin_ hi n0
  rw [upd_same, upd_upd] at hP5
  refine ⟨rfl, ⟨_, _, by rw [HW5.out]; exact hP5⟩, ?_⟩
  rw [HW5.out]
  exact (Fr.of_below HB2.out).trans (HS4.out.1.trans ((Fr.of_below (below_drew (Below.refl _ _))).trans (fr_cells _ _ _)))
end Go.Proofs.YtokebpeplopjhaaDoor.Mp
