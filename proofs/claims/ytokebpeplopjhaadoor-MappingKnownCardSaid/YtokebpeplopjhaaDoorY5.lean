/- dict.lend. dict.New: the plain law; the store of a count; an empty dictionary; rows of entries. dict.New. mapping: Of, Number, fits, gap. dict.Find; mapping's check of one Map. mapping.Size; rows of Maps. mapping.Check. -/
import Derived.Test.YtokebpeplopjhaaDoorY4
import Derived.Deep.RegionWith
namespace Go.Proofs.YtokebpeplopjhaaDoor.Mp
open Go.RowKit Go.Shelf Go.Proofs.YtokebpeplopjhaaDoor.Rng Go.Proofs.YtokebpeplopjhaaDoorW.PrintWords Go.Proofs.YtokebpeplopjhaaDoorW.PrintMore Go.Proofs.YtokebpeplopjhaaDoorW.PrintLast

/-- An entry's rows lie at or beyond block n. -/
def EnO (n : Nat) (v : Value) : Prop := ∀ (c : Array Value), v = .agg c → ∀ j A m cap, (j = 5 ∨ j = 6 ∨ j = 7) → c[j]? = some (.slice A m cap) → Off (fun k => k < n) A m
def LndSaid (w : World) (x : En) (r : Ending) (w' : World) : Prop := ∃ v, r = .returned v ∧ EnV w' v x ∧ Below w.heap.size w w' ∧ EnO w.heap.size v
theorem off_two {n j : Nat} {A : Option Addr} {l : Nat} (h : Off (fun k => k < n) A l) (hj : j + 1 < n) : Off (fun k => k = j ∨ k = j + 1) A l := fun ad e hn hk => h ad e hn (by show ad.block < n; rcases hk with hk | hk <;> omega)
theorem R_offB {w : World} {e base n : Nat} {ok : Nat → Prop} {A : Option Addr} {l c : Nat} {a : List Int} (h : Kd.R kB e w base ok (.slice A l c) a) (hn : n ≤ base) : Off (fun j => j < n) A a.length := by
  intro ad hA hl hj
  obtain ⟨g, cap, hv, hg, _, _⟩ := Kd.R_form h hl
  injection hv with h1 _ _
  rw [hA] at h1
  injection h1 with h1
  rw [h1] at hj
  have : g < n := hj
  omega
theorem offm {n m : Nat} {A : Option Addr} {l : Nat} (h : Off (fun k => k < n) A l) (hm : m ≤ n) : Off (fun k => k < m) A l := fun ad e hn hk => h ad e hn (Nat.lt_of_lt_of_le hk hm)
theorem enO_mk {n : Nat} {v0 v1 v2 v3 v4 v8 v9 : Value} {A1 A2 A3 : Option Addr} {m1 m2 m3 c1 c2 c3 : Nat} (h1 : Off (fun k => k < n) A1 m1) (h2 : Off (fun k => k < n) A2 m2) (h3 : Off (fun k => k < n) A3 m3) : EnO n (.agg #[v0, v1, v2, v3, v4, .slice A1 m1 c1, .slice A2 m2 c2, .slice A3 m3 c3, v8, v9]) := by
  intro c hc j A m cap hj he
  injection hc with hc
  subst hc
  rcases hj with rfl | rfl | rfl
  · simp at he
    obtain ⟨rfl, rfl, rfl⟩ := he
    exact h1
  · simp at he
    obtain ⟨rfl, rfl, rfl⟩ := he
    exact h2
  · simp at he
    obtain ⟨rfl, rfl, rfl⟩ := he
    exact h3
theorem info_en : (Tryd.prog.info? 121).map (·.size) = some 10 := by kernel_rfl
theorem R_off2 {w : World} {e base k : Nat} {ok : Nat → Prop} {A : Option Addr} {n c : Nat} {a : List Int} (h : Kd.R kB e w base ok (.slice A n c) a) (hk : k + 1 < base) : Off (fun j => j = k ∨ j = k + 1) A a.length :=
  fun ad hA hn hj => by
    rcases hj with hj | hj
    · exact R_off (k := k) h (by omega) ad hA hn hj
    · exact R_off (k := k + 1) h (by omega) ad hA hn hj
theorem putAt10 (u0 u1 u2 u3 u4 u5 u6 u7 u8 u9 v0 v1 v2 v3 v4 v5 v6 v7 v8 v9 : Value) : putAt #[u0, u1, u2, u3, u4, u5, u6, u7, u8, u9] 0 [v0, v1, v2, v3, v4, v5, v6, v7, v8, v9] = #[v0, v1, v2, v3, v4, v5, v6, v7, v8, v9] := by simp [putAt]
theorem cells10 (W : World) (g : Nat) (v0 v1 v2 v3 v4 v5 v6 v7 v8 v9 : Value) :
    (((((((((W.setCell ⟨g, 0, none⟩ v0).setCell ⟨g, 1, none⟩ v1).setCell ⟨g, 2, none⟩ v2).setCell ⟨g, 3, none⟩ v3).setCell ⟨g, 4, none⟩ v4).setCell ⟨g, 5, none⟩ v5).setCell ⟨g, 6, none⟩ v6).setCell ⟨g, 7, none⟩ v7).setCell ⟨g, 8, none⟩ v8).setCell ⟨g, 9, none⟩ v9 = W.setCells g 0 [v0, v1, v2, v3, v4, v5, v6, v7, v8, v9] := rfl
theorem row10 {W : World} {g : Nat} {t : TypeId} {u0 u1 u2 u3 u4 u5 u6 u7 u8 u9 : Value} (h : W.heap[g]? = some (.cells #[u0, u1, u2, u3, u4, u5, u6, u7, u8, u9] t (0, 0))) (v0 v1 v2 v3 v4 v5 v6 v7 v8 v9 : Value) :
    (W.setCells g 0 [v0, v1, v2, v3, v4, v5, v6, v7, v8, v9]).heap[g]? = some (.cells #[v0, v1, v2, v3, v4, v5, v6, v7, v8, v9] t (0, 0)) := by
  rw [← putAt10 u0 u1 u2 u3 u4 u5 u6 u7 u8 u9]
  exact heap_setCells _ _ _ _ h
theorem lend_end {tmps : Array Value} {W : World} {b : Nat} {cs : Array Value} {t : TypeId} (h4 : tmps.getD 2 undef = .pointer (some ⟨b, 0, none⟩)) (hb : W.heap[b]? = some (.cells cs t (0, 0))) (hs : cs.size = 10) :
    (results Tryd.f71 tmps).run Tryd.prog W = .ok (.agg cs) W :=
  results_single rfl (.cell b t cs (0, 0) _ h4 hb Tryd.underlying121 rfl (by rw [info_en, hs]) .nil)
/-- A row of bytes and a block that it does not lie in. -/
def ArgO (j : Nat) (w : World) (v : Value) (l : List Int) : Prop := ∃ A c, v = .slice A l.length c ∧ Arg w A c l ∧ l.length ≤ 140737488355328 ∧ Off (fun k => k = j) A l.length
theorem ArgV.off {w : World} {A : Option Addr} {n c : Nat} {l : List Int} {j : Nat} (h : ArgV w (.slice A n c) l) (ho : Off (fun k => k = j) A l.length) : ArgO j w (.slice A n c) l := by
  obtain ⟨A', c', e, q1, q2⟩ := h
  injection e with e1 e2 e3
  subst e1 e2 e3
  exact ⟨A, c, rfl, q1, q2, ho⟩
theorem ArgO.set {w w' : World} {v : Value} {l : List Int} {j : Nat} (h : ArgO j w v l) (hf : Fr (fun k => k = j) w w') : ArgV w' v l := by
  obtain ⟨A, c, e, q1, q2, ho⟩ := h
  exact ⟨A, c, e, ⟨q1.rd.fr hf ho, q1.byt, q1.le, q1.cap⟩, q2⟩
/-- A value that lies below the block that is then written. -/
def ArgN (g : Nat) (w : World) (v : Value) (l : List Int) : Prop := ∃ A c, v = .slice A l.length c ∧ Arg w A c l ∧ l.length ≤ 140737488355328 ∧ Off (fun k => k = g) A l.length
theorem fr_cells {g : Nat} : ∀ (vs : List Value) (o : Nat) (w : World), Fr (fun k => k = g) w (w.setCells g o vs)
  | [], _, _ => Fr.refl _ _
  | v :: r, o, w => (Fr.setCell (M := fun k => k = g) w ⟨g, o, none⟩ v (.inl rfl)).trans (fr_cells r (o + 1) (w.setCell ⟨g, o, none⟩ v))
theorem ArgN.cellsO {g : Nat} {w : World} {v : Value} {l : List Int} (h : ArgN g w v l) (o : Nat) (vs : List Value) : ArgV (w.setCells g o vs) v l := by
  obtain ⟨A, c, e, q1, q2, ho⟩ := h
  exact ⟨A, c, e, ⟨q1.rd.fr (fr_cells vs o w) ho, q1.byt, q1.le, q1.cap⟩, q2⟩
theorem lend_mid {w W2 w3 : World} {x : En} {A1 A2 A3 B1 B2 B3 : Option Addr} {a1 a2 a3 b1 b2 b3 : Nat} (hW : Below W2.heap.size W2 w3) (hB : Below w.heap.size w W2)
    (hk : w3.heap[w.heap.size]? = some (.cells #[.int .u16 x.ix, .int .u8 x.sub, .string x.name, .int .u8 x.ty, .int .u8 x.rt, .slice A1 x.df.length a1, .slice A2 x.lo.length a2, .slice A3 x.hi.length a3, .int .u8 x.tag, .int .u8 x.grp] 121 (0, 0))) (hr : w3.heap[w.heap.size + 1]? = some (.cells #[.int .u16 0, .int .u8 0, .string { data := #[] }, .int .u8 0, .int .u8 0, .slice none 0 0, .slice none 0 0, .slice none 0 0, .int .u8 0, .int .u8 0] 121 (0, 0)))
    (h1 : ArgV w3 (.slice B1 x.df.length b1) x.df) (h2 : ArgV w3 (.slice B2 x.lo.length b2) x.lo) (h3 : ArgV w3 (.slice B3 x.hi.length b3) x.hi) (o1 : Off (fun k => k = w.heap.size ∨ k = w.heap.size + 1) B1 x.df.length) (o2 : Off (fun k => k = w.heap.size ∨ k = w.heap.size + 1) B2 x.lo.length) (o3 : Off (fun k => k = w.heap.size ∨ k = w.heap.size + 1) B3 x.hi.length) :
    ∃ W4, Below w.heap.size w W4 ∧ W4.heap[w.heap.size]? = some (.cells #[.int .u16 x.ix, .int .u8 x.sub, .string x.name, .int .u8 x.ty, .int .u8 x.rt, .slice B1 x.df.length b1, .slice B2 x.lo.length b2, .slice B3 x.hi.length b3, .int .u8 x.tag, .int .u8 x.grp] 121 (0, 0)) ∧ W4.heap[w.heap.size + 1]? = some (.cells #[.int .u16 0, .int .u8 0, .string { data := #[] }, .int .u8 0, .int .u8 0, .slice none 0 0, .slice none 0 0, .slice none 0 0, .int .u8 0, .int .u8 0] 121 (0, 0)) ∧
      ArgN (w.heap.size + 1) W4 (.slice B1 x.df.length b1) x.df ∧ ArgN (w.heap.size + 1) W4 (.slice B2 x.lo.length b2) x.lo ∧ ArgN (w.heap.size + 1) W4 (.slice B3 x.hi.length b3) x.hi ∧ (((w3.setCell ⟨w.heap.size, 5, none⟩ (.slice B1 x.df.length b1)).setCell ⟨w.heap.size, 6, none⟩ (.slice B2 x.lo.length b2)).setCell ⟨w.heap.size, 7, none⟩ (.slice B3 x.hi.length b3)) = W4 := by
  have f1 : Fr (fun k => k = w.heap.size) w3 (((w3.setCell ⟨w.heap.size, 5, none⟩ (.slice B1 x.df.length b1)).setCell ⟨w.heap.size, 6, none⟩ (.slice B2 x.lo.length b2)).setCell ⟨w.heap.size, 7, none⟩ (.slice B3 x.hi.length b3)) := ((Fr.setCell (M := fun k => k = w.heap.size) w3 ⟨w.heap.size, 5, none⟩ _ (.inl rfl)).trans (Fr.setCell (M := fun k => k = w.heap.size) _ ⟨w.heap.size, 6, none⟩ _ (.inl rfl))).trans (Fr.setCell (M := fun k => k = w.heap.size) _ ⟨w.heap.size, 7, none⟩ _ (.inl rfl))
  have mk : ∀ {B b l}, ArgV w3 (.slice B l.length b) l → Off (fun k => k = w.heap.size ∨ k = w.heap.size + 1) B l.length → ArgN (w.heap.size + 1) (((w3.setCell ⟨w.heap.size, 5, none⟩ (.slice B1 x.df.length b1)).setCell ⟨w.heap.size, 6, none⟩ (.slice B2 x.lo.length b2)).setCell ⟨w.heap.size, 7, none⟩ (.slice B3 x.hi.length b3)) (.slice B l.length b) l := by
    intro B b l h ho
    obtain ⟨A', c', e, q1, q2⟩ := h
    injection e with e1 e2 e3
    subst e1 e3
    exact ⟨B, b, rfl, ⟨q1.rd.fr f1 (fun ad e hn hk => ho ad e hn (.inl hk)), q1.byt, q1.le, q1.cap⟩, q2, fun ad e hn hk => ho ad e hn (.inr hk)⟩
  refine ⟨_, (below_step hB hW).trans (f1.below (B := w.heap.size) (fun k hk => ⟨?_, ?_⟩)), ?_, (f1.block _ (blk_lt hr) (by omega)).trans hr, mk h1 o1, mk h2 o2, mk h3 o3, rfl⟩
  · have := (below_step hB hW).size
    omega
  · omega
  · have p1 := blk_put (blk_put (blk_put hk 5 (.slice B1 x.df.length b1) rfl) 6 (.slice B2 x.lo.length b2) rfl) 7 (.slice B3 x.hi.length b3) rfl
    simp only [List.setIfInBounds_toArray, List.set_cons_succ, List.set_cons_zero] at p1
    exact p1
set_option maxRecDepth 100000 in
set_option maxHeartbeats 8000000 in
theorem lend_any (x : En) (v : Value) (w : World) (h : EnV w v x) :
    Calls Tryd.prog 71 #[v] w (LndSaid w x) := by
  obtain ⟨v1, v2, v3, rfl, ⟨A1, a1, rfl, h1⟩, ⟨A2, a2, rfl, h2⟩, ⟨A3, a3, rfl, h3⟩⟩ := h
  have H1 := Aside0.mk fun W (hW : Below w.heap.size w W) => clone_arg A1 a1 x.df W (ArgV.below (w := w) ⟨_, _, rfl, h1⟩ hW)
  have H2 := Aside0.mk fun W (hW : Below w.heap.size w W) => clone_arg A2 a2 x.lo W (ArgV.below (w := w) ⟨_, _, rfl, h2⟩ hW)
  have H3 := Aside0.mk fun W (hW : Below w.heap.size w W) => clone_arg A3 a3 x.hi W (ArgV.below (w := w) ⟨_, _, rfl, h3⟩ hW)
  clear h1 h2 h3
  go_enter Tryd.func71, Tryd.ntmps71
  go_wp2
  obtain ⟨W2, hW2⟩ : ∃ W2, ((w.alloc (.cells #[.int .u16 x.ix, .int .u8 x.sub, .string x.name, .int .u8 x.ty, .int .u8 x.rt, .slice A1 x.df.length a1, .slice A2 x.lo.length a2, .slice A3 x.hi.length a3, .int .u8 x.tag, .int .u8 x.grp] 121)).alloc (.cells #[.int .u16 0, .int .u8 0, .string { data := #[] }, .int .u8 0, .int .u8 0, .slice none 0 0, .slice none 0 0, .slice none 0 0, .int .u8 0, .int .u8 0] 121)) = W2 := ⟨_, rfl⟩
  have hb2 : Below w.heap.size w W2 := hW2 ▸ (below_alloc (Below.refl _ _) _).alloc (by simp) _
  have hp2 : W2.heap[w.heap.size]? = some (.cells #[.int .u16 x.ix, .int .u8 x.sub, .string x.name, .int .u8 x.ty, .int .u8 x.rt, .slice A1 x.df.length a1, .slice A2 x.lo.length a2, .slice A3 x.hi.length a3, .int .u8 x.tag, .int .u8 x.grp] 121 (0, 0)) := hW2 ▸ blk_alloc (blk_new _ _) _
  have hr2 : W2.heap[w.heap.size + 1]? = some (.cells #[.int .u16 0, .int .u8 0, .string { data := #[] }, .int .u8 0, .int .u8 0, .slice none 0 0, .slice none 0 0, .slice none 0 0, .int .u8 0, .int .u8 0] 121 (0, 0)) := by
    have := blk_new (w.alloc (.cells #[.int .u16 x.ix, .int .u8 x.sub, .string x.name, .int .u8 x.ty, .int .u8 x.rt, .slice A1 x.df.length a1, .slice A2 x.lo.length a2, .slice A3 x.hi.length a3, .int .u8 x.tag, .int .u8 x.grp] 121)) (.cells #[.int .u16 0, .int .u8 0, .string { data := #[] }, .int .u8 0, .int .u8 0, .slice none 0 0, .slice none 0 0, .slice none 0 0, .int .u8 0, .int .u8 0] 121)
    rw [World.size_alloc, hW2] at this
    exact this
  rw [hW2]
  have K := Aside0.mk fun X (hX : Below W2.heap.size W2 X) => held10 (blk_below hp2 hX)
  have KR := Aside0.mk fun X (hX : Below W2.heap.size W2 X) => blk_below hr2 hX
  have KP := Aside0.mk fun X (hX : Below W2.heap.size W2 X) => blk_below hp2 hX
  have HB2 := Aside0.mk hb2
  have HSZ := Aside0.mk (show w.heap.size + 1 < W2.heap.size by rw [← hW2]; simp)
  have HW := Aside0.mk (Below.refl W2.heap.size W2).drew
  obtain ⟨c0, c1, c2, c3, c4, c5, c6, c7, c8, c9, cf⟩ := held10 hp2
  clear hW2 hb2 hp2 hr2
  go_region_with (first
    | (go_at_call 77; (with_reducible refine (H1.out _ (below_step HB2.out HW.out)).mono ?_); rintro e w1 ⟨v1, rfl, hR, hA, hb⟩; have HSZ1 := Aside0.mk HW.out.size; replace HW := Aside0.mk (below_step HW.out hb); have HA1 := Aside0.mk hA; obtain ⟨B1, b1, rfl, -⟩ := hA; have HO1 := Aside0.mk (R_offB (n := W2.heap.size) hR HSZ1.out); clear hR hb; obtain ⟨c0, c1, c2, c3, c4, c5, c6, c7, c8, c9, cf⟩ := K.out _ HW.out)
    | (go_at_call 77; (with_reducible refine (H2.out _ (below_step HB2.out HW.out)).mono ?_); rintro e w2 ⟨v2, rfl, hR, hA, hb⟩; have HSZ2 := Aside0.mk HW.out.size; have HS2 := Aside0.mk hb; replace HW := Aside0.mk (below_step HW.out hb); have HA2 := Aside0.mk hA; obtain ⟨B2, b2, rfl, -⟩ := hA; have HO2 := Aside0.mk (R_offB (n := W2.heap.size) hR HSZ2.out); clear hR hb; obtain ⟨c0, c1, c2, c3, c4, c5, c6, c7, c8, c9, cf⟩ := K.out _ HW.out)
    | (go_at_call 77; (with_reducible refine (H3.out _ (below_step HB2.out HW.out)).mono ?_); rintro e w3 ⟨v3, rfl, hR, hA, hb⟩; have HSZ3 := Aside0.mk HW.out.size; have HS3 := Aside0.mk hb; replace HW := Aside0.mk (below_step HW.out hb); have HA3 := Aside0.mk hA; obtain ⟨B3, b3, rfl, -⟩ := hA; have HO3 := Aside0.mk (R_offB (n := W2.heap.size) hR HSZ3.out); clear hR hb; obtain ⟨c0, c1, c2, c3, c4, c5, c6, c7, c8, c9, cf⟩ := K.out _ HW.out))
  all_goals
    obtain ⟨W4, q1, p1, r1, g1, g2, g3, hW4⟩ := lend_mid HW.out HB2.out (KP.out _ HW.out) (KR.out _ HW.out) ((HA1.out.below HS2.out).below HS3.out) (HA2.out.below HS3.out) HA3.out (off_two HO1.out HSZ.out) (off_two HO2.out HSZ.out) (off_two HO3.out HSZ.out)
    rw [hW4]
    obtain ⟨m0, m1, m2, m3, m4, m5, m6, m7, m8, m9, -⟩ := held10 p1
    obtain ⟨k0, k1, k2, k3, k4, k5, k6, k7, k8, k9, kf⟩ := held10 r1
    have HQ1 := Aside0.mk q1
    have HR1 := Aside0.mk r1
    have HG := Aside0.mk (And.intro g1 (And.intro g2 g3))
    clear hW4 q1 p1 r1 g1 g2 g3 c0 c1 c2 c3 c4 c5 c6 c7 c8 c9 cf
    go_wp2
    rw [cells10]
    refine bodyPost_ret (lend_end (b := w.heap.size + 1) (cs := #[.int .u16 x.ix, .int .u8 x.sub, .string x.name, .int .u8 x.ty, .int .u8 x.rt, .slice B1 x.df.length b1, .slice B2 x.lo.length b2, .slice B3 x.hi.length b3, .int .u8 x.tag, .int .u8 x.grp]) (t := 121) rfl ?_ rfl) rfl ⟨_, rfl, ⟨_, _, _, rfl, ?_, ?_, ?_⟩, ?_, enO_mk (offm HO1.out (Nat.le_of_lt (Nat.lt_of_succ_lt HSZ.out))) (offm HO2.out (Nat.le_of_lt (Nat.lt_of_succ_lt HSZ.out))) (offm HO3.out (Nat.le_of_lt (Nat.lt_of_succ_lt HSZ.out)))⟩
    · exact row10 HR1.out ..
    · exact (HG.out.1).cellsO _ _
    · exact (HG.out.2.1).cellsO _ _
    · exact (HG.out.2.2).cellsO _ _
    · exact below_cells (by omega) _ _ HQ1.out
end Go.Proofs.YtokebpeplopjhaaDoor.Mp
namespace Go.Proofs.YtokebpeplopjhaaDoor.Mp
open Go.RowKit Go.Shelf Go.Proofs.YtokebpeplopjhaaDoor.Rng Go.Proofs.YtokebpeplopjhaaDoorW.PrintWords Go.Proofs.YtokebpeplopjhaaDoorW.PrintMore Go.Proofs.YtokebpeplopjhaaDoorW.PrintLast

instance (e : En) : Decidable (mayC chkC e) := by unfold mayC; infer_instance
/-- A dictionary of entries, one behind the other; or why there is none. -/
def newC : List En → DD → Int × DD
  | [], d => (0, d)
  | e :: r, d => if ¬ mayC chkC e then (80, d) else if (d.D e.ix e.sub).isSome = true then (6, d) else newC r (d.add e)
/-- A row of entries. -/
def EsAt (w : World) (A : Option Addr) (l : List En) : Prop := ∀ j e, l[j]? = some e → ∃ ad v1 v2 v3, A = some ad ∧ (∀ (i : Nat) u, (e.cells v1 v2 v3)[i]? = some u → w.cell? (ad.add (j * 10 + i)) = some u) ∧ ArgV w v1 e.df ∧ ArgV w v2 e.lo ∧ ArgV w v3 e.hi
theorem EsAt.below {w w' : World} {A : Option Addr} {l : List En} (h : EsAt w A l) (hb : Below w.heap.size w w') : EsAt w' A l := by
  intro j e hj
  obtain ⟨ad, v1, v2, v3, hA, hc, h1, h2, h3⟩ := h j e hj
  exact ⟨ad, v1, v2, v3, hA, fun i u hu => pw_cell_below hb (hc i u hu), h1.below hb, h2.below hb, h3.below hb⟩
/-- A store into the map of counts. -/
theorem DictAt.storeS {B : Nat} {w : World} {g : Nat} {d : DD} {bi bs n m : Nat} {fi fs : Value → Option Value} (h : DictAt B w g d bi bs n m fi fs) {i : Int} (hi : 0 ≤ i ∧ i < 65536) (c : Int) :
    ∃ o, (Instr.mapUpdate 123 (.map (some bs)) (.int .u16 i) (.int .i64 c)).run Tryd.prog w = .ok () (ChangeMaps.setBlock w bs o) ∧
      ∃ f', DictAt B (ChangeMaps.setBlock w bs o) g ⟨d.D, fun i' => if i' = i then c else d.S i', d.c⟩ bi bs n (m + 1) fi f' ∧ Fr (fun k => k = bs) w (ChangeMaps.setBlock w bs o) := by
  obtain ⟨f', hf1, hf2⟩ : ∃ f' : Value → Option Value, f' (.int .u16 i) = some (.int .i64 c) ∧ ∀ y, y ≠ .int .u16 i → f' y = fs y := by
    classical
    exact ⟨fun y => if y = .int .u16 i then some (.int .i64 c) else fs y, by simp, fun y hy => by simp [hy]⟩
  obtain ⟨o, h1, h2⟩ := h.subs.put law_u16 Tryd.underlying123 (key_u16 hi) (.int .i64 c) hf1 hf2
  have hfr : Fr (fun k => k = bs) w (ChangeMaps.setBlock w bs o) := ⟨rfl, rfl, rfl, by simp [ChangeMaps.setBlock], fun k hk hm => by
    simp only [ChangeMaps.setBlock]
    rw [Array.getElem?_setIfInBounds_ne (fun e => hm e.symm)]⟩
  have hgb : g ≠ bs := by
    intro e
    have hb := h.blk
    obtain ⟨es, clock, he, _⟩ := h.subs
    rw [e, he] at hb
    cases hb
  have hnb : NoByte w (fun k => k = bs) := fun p y hp hc => by
    obtain ⟨es, clock, he, _⟩ := h.subs
    unfold World.cell? at hc
    rw [hp, he] at hc
    cases hc
  refine ⟨o, h1, f', ⟨?_, h.base, ?_, h2, h.no, ?_, ?_⟩, hfr⟩
  · exact (hfr.block g (blk_lt h.blk) hgb).trans h.blk
  · exact h.items.block (hfr.block bi h.items.lt h.base.2.2.2)
  · intro i' s' y hi' hs' hd
    obtain ⟨u, hu1, hu2⟩ := h.yes i' s' y hi' hs' hd
    exact ⟨u, hu1, hu2.fr hfr hnb⟩
  · intro i' hi'
    by_cases e : i' = i
    · subst e
      rw [hf1]
      simp
    · rw [hf2 _ (by intro e2; injection e2 with _ e2; exact e e2)]
      simp only [e, if_false]
      exact h.count i' hi'
/-- An empty dictionary, new. -/
theorem dict_new (B : Nat) (w : World) (hB : B ≤ w.heap.size) : DictAt B (((w.alloc (.map #[] 0)).alloc (.map #[] 0)).alloc (.cells #[.map (some w.heap.size), .map (some (w.heap.size + 1)), .int .i64 0] 125)) (w.heap.size + 2) DD.none w.heap.size (w.heap.size + 1) 0 0 (fun _ => none) (fun _ => none) := by
  have h1 := MapAt.made Tryd.prog 33 w
  have h2 := MapAt.made Tryd.prog 31 (w.alloc (.map #[] 0))
  rw [World.size_alloc] at h2
  have hb1 : Below (w.alloc (.map #[] 0)).heap.size (w.alloc (.map #[] 0)) ((w.alloc (.map #[] 0)).alloc (.map #[] 0)) := below_alloc (Below.refl _ _) _
  have hb2 : Below ((w.alloc (.map #[] 0)).alloc (.map #[] 0)).heap.size ((w.alloc (.map #[] 0)).alloc (.map #[] 0)) (((w.alloc (.map #[] 0)).alloc (.map #[] 0)).alloc (.cells #[.map (some w.heap.size), .map (some (w.heap.size + 1)), .int .i64 0] 125)) := below_alloc (Below.refl _ _) _
  have h3 := blk_new ((w.alloc (.map #[] 0)).alloc (.map #[] 0)) (.cells #[.map (some w.heap.size), .map (some (w.heap.size + 1)), .int .i64 0] 125)
  rw [World.size_alloc, World.size_alloc] at h3
  exact ⟨h3, ⟨by omega, by omega, by omega, by omega⟩, (h1.below hb1).below hb2, h2.below hb2, fun _ _ _ _ _ => rfl, (fun _ _ _ _ _ h => by cases h), fun _ _ => rfl⟩
theorem newS_le (l : List En) (k : Nat) (i : Int) : ((l.take k).foldl DD.add DD.none).S i ≤ k ∧ 0 ≤ ((l.take k).foldl DD.add DD.none).S i := by
  induction k with
  | zero => simp [DD.none]
  | succ k ih =>
    rw [List.take_add_one, List.foldl_append]
    cases l[k]? with
    | none => simp only [Option.toList_none, List.foldl_nil]; omega
    | some e =>
      simp only [Option.toList_some, List.foldl_cons, List.foldl_nil, DD.add]
      split <;> omega
theorem bnd_len {t : Int} {a : List Int} : bndE t a ↔ (a = [] ∨ chkC t a [] [] = 0) := Iff.rfl
/-- dict.may. -/
theorem dmay_any (x : En) (hx : x.Wf) (v : Value) (w : World) (h : EnV w v x) (ht : Tbl w) :
    Calls Tryd.prog 70 #[v] w fun e w' => e = .returned (.bool (decide (mayC chkC x))) ∧ Below w.heap.size w w' := by
  by_cases hk : knd x.ty = 0
  · rw [decide_eq_false (fun e => e.1 hk)]
    exact dmay_1 x hx v w h ht hk
  by_cases hr : 15 < x.rt
  · rw [decide_eq_false (fun e => by have := e.2.1; omega)]
    exact dmay_2 x hx v w h ht hk hr
  by_cases hg : 16 < x.grp
  · rw [decide_eq_false (fun e => by have := e.2.2.1; omega)]
    exact dmay_3 x hx v w h ht hk hr hg
  by_cases hn : 100 < x.name.size
  · rw [decide_eq_false (fun e => by have := e.2.2.2.1; omega)]
    exact dmay_4 x hx v w h ht hk hr hg hn
  by_cases hl : bndE x.ty x.lo
  · by_cases hh : bndE x.ty x.hi
    · have e : decide (mayC chkC x) = (chkC x.ty (firstC x) x.lo x.hi == 0) := by
        by_cases h0 : chkC x.ty (firstC x) x.lo x.hi = 0
        · rw [decide_eq_true (show mayC chkC x from ⟨hk, by omega, by omega, by omega, hl, hh, h0⟩), h0]
          rfl
        · rw [decide_eq_false (fun e => h0 e.2.2.2.2.2.2)]
          simpa using h0
      rw [e]
      exact dmay_7 x hx v w h ht hk hr hg hn hl hh
    · rw [decide_eq_false (fun e => hh e.2.2.2.2.2.1)]
      exact dmay_6 x hx v w h ht hk hr hg hn hl hh
  · rw [decide_eq_false (fun e => hl e.2.2.2.2.1)]
    exact dmay_5 x hx v w h ht hk hr hg hn hl
theorem EnV.fr {M : Nat → Prop} {w w' : World} {v : Value} {x : En} (h : EnV w v x) (hf : Fr M w w') (hM : NoByte w M) : EnV w' v x := by
  obtain ⟨v1, v2, v3, hv, h1, h2, h3⟩ := h
  exact ⟨v1, v2, v3, hv, h1.fr hf hM, h2.fr hf hM, h3.fr hf hM⟩
end Go.Proofs.YtokebpeplopjhaaDoor.Mp
namespace Go.Proofs.YtokebpeplopjhaaDoor.Mp
open Go.RowKit Go.Shelf Go.Proofs.YtokebpeplopjhaaDoor.Rng Go.Proofs.YtokebpeplopjhaaDoorW.PrintWords Go.Proofs.YtokebpeplopjhaaDoorW.PrintMore Go.Proofs.YtokebpeplopjhaaDoorW.PrintLast

/-- A row's entry, cell by cell. -/
theorem en_at {w : World} {A : Option Addr} {l : List En} (h : EsAt w A l) {k : Nat} {x : En} (hk : l[k]? = some x) :
    ∃ ad A1 a1 A2 a2 A3 a3, A = some ad ∧ ArgV w (.slice A1 x.df.length a1) x.df ∧ ArgV w (.slice A2 x.lo.length a2) x.lo ∧ ArgV w (.slice A3 x.hi.length a3) x.hi ∧
      w.cell? (ad.add (k * 10)) = some (.int .u16 x.ix) ∧ w.cell? ⟨(ad.add (k * 10)).block, (ad.add (k * 10)).off + 1, none⟩ = some (.int .u8 x.sub) ∧ w.cell? ⟨(ad.add (k * 10)).block, (ad.add (k * 10)).off + 2, none⟩ = some (.string x.name) ∧
      w.cell? ⟨(ad.add (k * 10)).block, (ad.add (k * 10)).off + 3, none⟩ = some (.int .u8 x.ty) ∧ w.cell? ⟨(ad.add (k * 10)).block, (ad.add (k * 10)).off + 4, none⟩ = some (.int .u8 x.rt) ∧ w.cell? ⟨(ad.add (k * 10)).block, (ad.add (k * 10)).off + 5, none⟩ = some (.slice A1 x.df.length a1) ∧
      w.cell? ⟨(ad.add (k * 10)).block, (ad.add (k * 10)).off + 6, none⟩ = some (.slice A2 x.lo.length a2) ∧ w.cell? ⟨(ad.add (k * 10)).block, (ad.add (k * 10)).off + 7, none⟩ = some (.slice A3 x.hi.length a3) ∧ w.cell? ⟨(ad.add (k * 10)).block, (ad.add (k * 10)).off + 8, none⟩ = some (.int .u8 x.tag) ∧
      w.cell? ⟨(ad.add (k * 10)).block, (ad.add (k * 10)).off + 9, none⟩ = some (.int .u8 x.grp) := by
  obtain ⟨ad, v1, v2, v3, hA, hc, h1, h2, h3⟩ := h k x hk
  obtain ⟨A1, a1, rfl, q1⟩ := h1
  obtain ⟨A2, a2, rfl, q2⟩ := h2
  obtain ⟨A3, a3, rfl, q3⟩ := h3
  have f : ∀ (i : Nat) u, 0 < i → (x.cells (.slice A1 x.df.length a1) (.slice A2 x.lo.length a2) (.slice A3 x.hi.length a3))[i]? = some u → w.cell? ⟨(ad.add (k * 10)).block, (ad.add (k * 10)).off + i, none⟩ = some u := fun i u hi hu => by
    rw [← add_field _ _ i hi]
    exact hc i u hu
  exact ⟨ad, A1, a1, A2, a2, A3, a3, hA, ⟨_, _, rfl, q1⟩, ⟨_, _, rfl, q2⟩, ⟨_, _, rfl, q3⟩, hc 0 _ rfl, f 1 _ (by omega) rfl, f 2 _ (by omega) rfl, f 3 _ (by omega) rfl, f 4 _ (by omega) rfl, f 5 _ (by omega) rfl, f 6 _ (by omega) rfl, f 7 _ (by omega) rfl, f 8 _ (by omega) rfl, f 9 _ (by omega) rfl⟩
theorem tbl_fr {w w' : World} {B : Nat} (h : TblB B w) (hf : Fr (fun k => k = B) w w') : Tbl w' := by
  obtain ⟨bm, h1, h2, h3, h4⟩ := h
  exact TblB.tbl ⟨bm, h1, h2, hf.cell h3 (Nat.ne_of_lt h2), h4.block (hf.block bm h4.lt (Nat.ne_of_lt h1))⟩
theorem item_of {w : World} {x : En} {A1 A2 A3 A4 : Option Addr} {a1 a2 a3 a4 : Nat} {b : List Int} (h : EnV w (.agg #[.int .u16 x.ix, .int .u8 x.sub, .string x.name, .int .u8 x.ty, .int .u8 x.rt, .slice A1 x.df.length a1, .slice A2 x.lo.length a2, .slice A3 x.hi.length a3, .int .u8 x.tag, .int .u8 x.grp]) x) (hb : ArgV w (.slice A4 b.length a4) b) :
    ItV w (.agg #[.int .u16 x.ix, .int .u8 x.sub, .string x.name, .int .u8 x.ty, .int .u8 x.rt, .slice A1 x.df.length a1, .slice A2 x.lo.length a2, .slice A3 x.hi.length a3, .int .u8 x.tag, .int .u8 x.grp, .slice A4 b.length a4]) ⟨x, b⟩ := by
  obtain ⟨v1, v2, v3, e, h1, h2, h3⟩ := h
  simp only [Value.agg.injEq, Array.mk.injEq, List.cons.injEq, true_and, and_true] at e
  obtain ⟨rfl, rfl, rfl⟩ := e
  exact ⟨_, _, _, _, rfl, h1, h2, h3, hb⟩
theorem add_eq (d : DD) (x : En) : d.add x = ⟨fun i' s' => if i' = x.ix ∧ s' = x.sub then some ⟨x, firstC x⟩ else d.D i' s', fun i' => if i' = x.ix then d.S x.ix + 1 else d.S i', d.c⟩ := by
  unfold DD.add
  congr 1
  funext i'
  by_cases h : i' = x.ix
  · subst h
    simp
  · simp [h]
/-- What New tells. -/
def NewSaid (B : Nat) (w : World) (r : Int × Option DD) (e : Ending) (w' : World) : Prop := Below w.heap.size w w' ∧ match r.2 with
  | none => e = .returned (.tuple #[.pointer none, .int .i64 r.1])
  | some d => ∃ g bi bs, e = .returned (.tuple #[.pointer (some ⟨g, 0, none⟩), .int .i64 r.1]) ∧ w.heap.size ≤ g ∧ w.heap.size ≤ bi ∧ w.heap.size ≤ bs ∧ DictB B w' g bi bs d
def newR (l : List En) : Int × Option DD := if 1024 < l.length then (3, none) else ((newC l DD.none).1, if (newC l DD.none).1 = 0 then some (newC l DD.none).2 else none)
set_option maxRecDepth 100000 in
set_option maxHeartbeats 4000000 in
theorem new_any (B : Nat) (l : List En) (A : Option Addr) (c : Nat) (w : World) (h : EsAt w A l) (hwf : ∀ e ∈ l, e.Wf) (ht : Tbl w) (hB : B ≤ w.heap.size) (hl : l.length ≤ 1024) (r : Int × Option DD) (hr : newR l = r) :
    Calls Tryd.prog 19 #[.slice A l.length c] w (NewSaid B w r) := by
  have HE := Aside0.mk h
  have HWF := Aside0.mk hwf
  have HT := Aside0.mk ht
  have HR := Aside0.mk hr
  have HBB := Aside0.mk hB
  obtain ⟨n, hn⟩ : ∃ n, l.length = n := ⟨_, rfl⟩
  have HN := Aside0.mk hn
  rw [hn] at hl ⊢
  clear h hwf ht hr hB hn
  have hmm := @run_makeMap Tryd.prog
  go_enter Tryd.func19, Tryd.ntmps19
  go_wp2
  go_loopw [19] (fun i wr => ∃ (k : Nat) (d : DD), k ≤ n ∧ i = .int .i64 k ∧ Aside0 (newC l DD.none = newC (l.drop k) d ∧ d = (l.take k).foldl DD.add DD.none) ∧ Aside0 (DictB B wr (w.heap.size + 1 + 1) w.heap.size (w.heap.size + 1) d) ∧ Aside0 (Below w.heap.size w wr)) (fun i _ => n - (intOf i).toNat)
  case atStart =>
    clear hmm
    refine ⟨0, DD.none, Nat.zero_le _, rfl, ⟨rfl, rfl⟩, ⟨⟨_, _, _, _, dict_new B w HBB.out⟩⟩, ⟨?_⟩⟩
    exact (((below_alloc (Below.refl _ _) _).alloc (by simp) _).alloc (by simp; omega) _)
  case round =>
    clear hmm
    obtain ⟨k, d, hk, rfl, HP, HD, HB⟩ := hrel
    by_cases hlt : k < n
    · obtain ⟨x, hx⟩ : ∃ x, l[k]? = some x := ⟨_, List.getElem?_eq_getElem (by rw [HN.out]; exact hlt)⟩
      have hxw := HWF.out x (List.mem_of_getElem? hx)
      obtain ⟨ad, A1, a1, A2, a2, A3, a3, rfl, g1, g2, g3, y0, y1, y2, y3, y4, y5, y6, y7, y8, y9⟩ := en_at (HE.out.below HB.out) hx
      have HG := Aside0.mk (And.intro g1 (And.intro g2 g3))
      have HX := Aside0.mk hx
      clear g1 g2 g3 hx
      have HA2 := Aside0.mk (show Below wr.heap.size wr ((wr.alloc (.cells #[.int .u16 x.ix, .int .u8 x.sub, .string x.name, .int .u8 x.ty, .int .u8 x.rt, .slice A1 x.df.length a1, .slice A2 x.lo.length a2, .slice A3 x.hi.length a3, .int .u8 x.tag, .int .u8 x.grp] 121)).alloc (.cells #[.int .u16 x.ix, .int .u8 x.sub] 33)) from (below_alloc (Below.refl _ _) _).alloc (by simp) _)
      have hdrop : l.drop k = x :: l.drop (k + 1) := by
        have hkl : k < l.length := by rw [HN.out]; exact hlt
        rw [List.drop_eq_getElem_cons hkl]
        have := HX.out
        rw [List.getElem?_eq_getElem hkl] at this
        injection this with this
        rw [this]
      have HDR := Aside0.mk hdrop
      clear hdrop
      by_cases hm : mayC chkC x
      · have HM := Aside0.mk (decide_eq_true hm)
        go_wp2_with (go_at_call 70; refine (dmay_any x hxw _ _ (EnV.below (w := wr) ⟨_, _, _, rfl, HG.out.1, HG.out.2.1, HG.out.2.2⟩ HA2.out) ((HT.out.below HB.out).below HA2.out)).mono ?_; rw [HM.out]; rintro e w1 ⟨rfl, hb⟩; have HW1 := Aside0.mk (below_step HA2.out hb); have HROW := Aside0.mk (blk_below (blk_alloc (blk_new wr _) _) hb); have HPL := Aside0.mk (blk_below (show _ = some _ from (World.size_alloc wr (.cells #[.int .u16 x.ix, .int .u8 x.sub, .string x.name, .int .u8 x.ty, .int .u8 x.rt, .slice A1 x.df.length a1, .slice A2 x.lo.length a2, .slice A3 x.hi.length a3, .int .u8 x.tag, .int .u8 x.grp] 121)) ▸ blk_new (wr.alloc (.cells #[.int .u16 x.ix, .int .u8 x.sub, .string x.name, .int .u8 x.ty, .int .u8 x.rt, .slice A1 x.df.length a1, .slice A2 x.lo.length a2, .slice A3 x.hi.length a3, .int .u8 x.tag, .int .u8 x.grp] 121)) (.cells #[.int .u16 x.ix, .int .u8 x.sub] 33)) hb); clear hb)
        clear y0 y1 y2 y3 y4 y5 y6 y7 y8 y9
        have HD1 := Aside0.mk (HD.out.below HW1.out)
        obtain ⟨n1, m1, fi, fs, hda⟩ := HD1.out
        have HDA := Aside0.mk hda
        have cg0 : ∀ X, Below w1.heap.size w1 X → X.cell? ⟨w.heap.size + 1 + 1, 0, none⟩ = some (.map (some w.heap.size)) := fun X hX => pw_cell_below hX (blk_cell hda.blk 0)
        have cp0 : ∀ X, Below w1.heap.size w1 X → X.cell? ⟨wr.heap.size + 1, 0, none⟩ = some (.int .u16 x.ix) := fun X hX => pw_cell_below hX (blk_cell HPL.out 0)
        have cp1 : ∀ X, Below w1.heap.size w1 X → X.cell? ⟨wr.heap.size + 1, 1, none⟩ = some (.int .u8 x.sub) := fun X hX => pw_cell_below hX (blk_cell HPL.out 1)
        have hS0 : Below w1.heap.size w1 w1 := Below.refl _ _
        cases hdx : d.D x.ix x.sub with
        | some y =>
          have hrr : r = (6, none) := by
            rw [← HR.out]
            unfold newR
            rw [if_neg (by have := HN.out; omega), HP.out.1, HDR.out]
            simp [newC, hm, hdx]
          subst hrr
          obtain ⟨v, hv, hl⟩ := hda.look hxw.ix hxw.sub
          rw [hdx] at hv hl
          simp only [Option.getD_some, Option.isSome_some] at hv hl
          obtain ⟨v1, v2, v3, v4, rfl, ⟨C1, e1, rfl, -⟩, ⟨C2, e2, rfl, -⟩, ⟨C3, e3, rfl, -⟩, ⟨C4, e4, rfl, -⟩⟩ := hv
          have hl10 : ∀ X, Below w1.heap.size w1 X → (Instr.lookup 122 (.map (some w.heap.size)) (pl x.ix x.sub) true).run Tryd.prog X = .ok (.tuple #[.agg #[.int .u16 y.ix, .int .u8 y.sub, .string y.name, .int .u8 y.ty, .int .u8 y.rt, .slice C1 y.df.length e1, .slice C2 y.lo.length e2, .slice C3 y.hi.length e3, .int .u8 y.tag, .int .u8 y.grp, .slice C4 y.val.length e4], .bool true]) X := fun X hX => hl true X hX
          clear hda hl
          go_region_held3 (fun X => Below w1.heap.size w1 X) (first | assumption | exact below_step (by assumption) (by assumption) | exact below_drew (by assumption) | exact below_made (by assumption) _ | (repeat (first | exact Below.refl _ _ | assumption | refine Below.setCell ?_ (Nat.le_refl _) _ | refine below_made ?_ _ | refine below_drew ?_)))
            (fail)
          all_goals
            go_wp2
            go_ret2
            exact ⟨HB.out.trans ((HW1.out.trans (((below_alloc (Below.refl _ _) _).drew).mono HW1.out.size)).mono HB.out.size), rfl⟩
        | none =>
          have hl10 := hda.lookN hxw.ix hxw.sub hdx
          clear hda
          go_region_held3 (fun X => Below w1.heap.size w1 X) (first | assumption | exact below_step (by assumption) (by assumption) | exact below_drew (by assumption) | exact below_made (by assumption) _ | (repeat (first | exact Below.refl _ _ | assumption | refine Below.setCell ?_ (Nat.le_refl _) _ | refine below_made ?_ _ | refine below_drew ?_)))
            (fail)
          all_goals
            have hb12 : Below w1.heap.size w1 ((w1.alloc (.cells #[.int .u16 0, .int .u8 0, .string { data := #[] }, .int .u8 0, .int .u8 0, .slice none 0 0, .slice none 0 0, .slice none 0 0, .int .u8 0, .int .u8 0, .slice none 0 0] 128)).drew) := (below_alloc (Below.refl _ _) _).drew
            generalize (w1.alloc (.cells #[.int .u16 0, .int .u8 0, .string { data := #[] }, .int .u8 0, .int .u8 0, .slice none 0 0, .slice none 0 0, .slice none 0 0, .int .u8 0, .int .u8 0, .slice none 0 0] 128)).drew = w2 at hb12 ⊢
            have HW2 := Aside0.mk (HW1.out.trans (hb12.mono HW1.out.size))
            have hda2 := HDA.out.below hb12
            have hrow2 := blk_below HROW.out hb12
            have hpl2 := blk_below HPL.out hb12
            have hbi : w.heap.size < w2.heap.size := hda2.items.lt
            have hne1 : wr.heap.size ≠ w.heap.size := fun e => by have := HB.out.size; have := (HD.out.choose_spec.choose_spec.choose_spec.choose_spec).items.lt; omega
            have hne2 : wr.heap.size + 1 ≠ w.heap.size := fun e => by have := HB.out.size; omega
            have hg0 : ∀ X, Fr (fun k => k = w.heap.size) w2 X → X.cell? ⟨w.heap.size + 1 + 1, 0, none⟩ = some (.map (some w.heap.size)) := fun X hX => hX.cell (blk_cell hda2.blk 0) (fun e => absurd (show w.heap.size + 1 + 1 = w.heap.size from e) (by omega))
            have hq0 : ∀ X, Fr (fun k => k = w.heap.size) w2 X → X.cell? ⟨wr.heap.size + 1, 0, none⟩ = some (.int .u16 x.ix) := fun X hX => hX.cell (blk_cell hpl2 0) hne2
            have hq1 : ∀ X, Fr (fun k => k = w.heap.size) w2 X → X.cell? ⟨wr.heap.size + 1, 1, none⟩ = some (.int .u8 x.sub) := fun X hX => hX.cell (blk_cell hpl2 1) hne2
            have K : ∀ X, Fr (fun k => k = w.heap.size) w2 X → X.heap[wr.heap.size]? = _ := fun X hX => (hX.block _ (blk_lt hrow2) hne1).trans hrow2
            have z0 := fun X hX => (held10 (K X hX)).1
            have z1 := fun X hX => (held10 (K X hX)).2.1
            have z2 := fun X hX => (held10 (K X hX)).2.2.1
            have z3 := fun X hX => (held10 (K X hX)).2.2.2.1
            have z4 := fun X hX => (held10 (K X hX)).2.2.2.2.1
            have z5 := fun X hX => (held10 (K X hX)).2.2.2.2.2.1
            have z6 := fun X hX => (held10 (K X hX)).2.2.2.2.2.2.1
            have z7 := fun X hX => (held10 (K X hX)).2.2.2.2.2.2.2.1
            have z8 := fun X hX => (held10 (K X hX)).2.2.2.2.2.2.2.2.1
            have z9 := fun X hX => (held10 (K X hX)).2.2.2.2.2.2.2.2.2.1
            have HEV := Aside0.mk fun X (hX : Fr (fun k => k = w.heap.size) w2 X) => EnV.fr (show EnV w2 (.agg #[.int .u16 x.ix, .int .u8 x.sub, .string x.name, .int .u8 x.ty, .int .u8 x.rt, .slice A1 x.df.length a1, .slice A2 x.lo.length a2, .slice A3 x.hi.length a3, .int .u8 x.tag, .int .u8 x.grp]) x from EnV.below (w := wr) ⟨_, _, _, rfl, HG.out.1, HG.out.2.1, HG.out.2.2⟩ HW2.out) hX (fun p y hp => hda2.noByte p y (.inr hp))
            have HTB := Aside0.mk fun X (hX : Fr (fun k => k = w.heap.size) w2 X) => tbl_fr (TblB.below HT.out (HB.out.trans (HW2.out.mono HB.out.size))) hX
            have HDA2 := Aside0.mk hda2
            have HROW2 := Aside0.mk hrow2
            have HB12 := Aside0.mk hb12
            have hS0' : Fr (fun k => k = w.heap.size) w2 w2.drew := Fr.drew _ _
            clear hda2 hrow2 hpl2 K cg0 cp0 cp1 hS0 hl10 hb12
            go_wp2
            go_region_held3 (fun X => Fr (fun k => k = w.heap.size) w2 X) (assumption)
              (first
                | (go_at_call 71; refine (lend_any x _ _ (HEV.out _ (by assumption))).mono ?_; rintro e w4 ⟨v4, rfl, hv4, hb4, -⟩; have HV4 := Aside0.mk hv4; obtain ⟨_, _, _, rfl, ⟨B1, b1, rfl, -⟩, ⟨B2, b2, rfl, -⟩, ⟨B3, b3, rfl, -⟩⟩ := hv4; have hS4 : Fr (fun k => k = w.heap.size) w2 w4 := hS0'.trans (Fr.of_below hb4); have HB4 := Aside0.mk hb4; clear hb4)
                | (go_at_call 72; refine (first_any x hxw _ _ (HEV.out _ hS4) (HTB.out _ hS4)).mono ?_; rintro e w5 ⟨v5, rfl, hv5, hb5⟩; have HV5 := Aside0.mk hv5; obtain ⟨B4, b4, rfl, -⟩ := hv5; have hS5 : Fr (fun k => k = w.heap.size) w2 w5 := hS4.trans (Fr.of_below hb5); obtain ⟨o, hrun, f', hd6, hF6⟩ := (((HDA2.out.below (Below.refl _ _).drew).below HB4.out).below hb5).store hxw.ix hxw.sub (.agg #[.int .u16 x.ix, .int .u8 x.sub, .string x.name, .int .u8 x.ty, .int .u8 x.rt, .slice B1 x.df.length b1, .slice B2 x.lo.length b2, .slice B3 x.hi.length b3, .int .u8 x.tag, .int .u8 x.grp, .slice B4 (firstC x).length b4]) ⟨x, firstC x⟩ (item_of (HV4.out.below hb5) HV5.out); have hS6 := hS5.trans hF6; have HD6 := Aside0.mk hd6; have HS6 := Aside0.mk hS6; generalize ChangeMaps.setBlock w5 _ o = w6 at hrun HD6 HS6 hS6; clear hb5 hd6 hF6))
            have hS6' := HS6.out
            have hrow6 : w6.heap[wr.heap.size]? = _ := (hS6'.block _ (blk_lt HROW2.out) hne1).trans HROW2.out
            have hi6 := blk_cell hrow6 0
            have hda6 := HD6.out
            have hda6d := hda6.below (Below.refl w6.heap.size w6).drew
            have hcnt : (Instr.lookup 123 (.map (some (w.heap.size + 1))) (.int .u16 x.ix) false).run Tryd.prog w6.drew = .ok (.int .i64 (d.S x.ix)) w6.drew := hda6.lookS hxw.ix w6.drew (Below.refl _ _).drew
            have hSb := newS_le l k x.ix
            rw [← HP.out.2] at hSb
            have hk4 : d.S x.ix + 1 ≤ 2000 ∧ 0 ≤ d.S x.ix := by omega
            have hsum : IntKind.i64.wrap (d.S x.ix + 1) = d.S x.ix + 1 := by
              rw [i64_w]
              unfold wrap64
              omega
            obtain ⟨o2, hrun2, f2, hd7, hF7⟩ := hda6d.storeS hxw.ix (d.S x.ix + 1)
            generalize ChangeMaps.setBlock w6.drew (w.heap.size + 1) o2 = w7 at hrun2 hd7 hF7
            have hne3 : wr.heap.size ≠ w.heap.size + 1 := fun e => by have := hda6.base; have := (HD.out.choose_spec.choose_spec.choose_spec.choose_spec).subs.lt; omega
            have hg1 : ∀ X, Fr (fun k => k = w.heap.size + 1) w6 X → X.cell? ⟨w.heap.size + 1 + 1, 1, none⟩ = some (.map (some (w.heap.size + 1))) := fun X hX => hX.cell (blk_cell hda6.blk 1) (fun e => absurd (show w.heap.size + 1 + 1 = w.heap.size + 1 from e) (by omega))
            have hi0 : ∀ X, Fr (fun k => k = w.heap.size + 1) w6 X → X.cell? ⟨wr.heap.size, 0, none⟩ = some (.int .u16 x.ix) := fun X hX => hX.cell hi6 hne3
            have hS7 : Fr (fun k => k = w.heap.size + 1) w6 w7 := (Fr.drew _ _).trans hF7
            have hS70 : Fr (fun k => k = w.heap.size + 1) w6 w6.drew := Fr.drew _ _
            have HD7 := Aside0.mk hd7
            have HB7 := Aside0.mk (show Below w.heap.size w w7 from (HB.out.trans (HW2.out.mono HB.out.size)).trans ((hS6'.below (B := w.heap.size) (fun j hj => ⟨Nat.lt_trans hj hbi, fun e => absurd (show j = w.heap.size from e) (by omega)⟩)).trans (hS7.below (B := w.heap.size) (fun j hj => ⟨by have := hS6'.size; omega, fun e => absurd (show j = w.heap.size + 1 from e) (by omega)⟩))))
            clear hrow6 hi6 hda6 hda6d hSb hk4 hd7 hF7 hg0 hq0 hq1 z0 z1 z2 z3 z4 z5 z6 z7 z8 z9 hrun hS6 hS6' hS5 hS4 hS0'
            go_wp2
            go_region_held3 (fun X => Fr (fun k => k = w.heap.size + 1) w6 X) (assumption)
              (fail)
            go_wp2
            go_roundw
            case rel =>
              refine ⟨k + 1, d.add x, by omega, by go_num, ⟨?_, ?_⟩, ⟨⟨_, _, _, _, add_eq d x ▸ HD7.out⟩⟩, HB7⟩
              · rw [HP.out.1, HDR.out]
                simp [newC, hm, hdx]
              · rw [List.take_add_one, HX.out, List.foldl_append, ← HP.out.2]
                rfl
            case measure => simp [intOf]; omega
      · have HM := Aside0.mk (decide_eq_false hm)
        have hrr : r = (80, none) := by
          rw [← HR.out]
          unfold newR
          rw [if_neg (by have := HN.out; omega), HP.out.1, HDR.out]
          simp [newC, hm]
        subst hrr
        go_wp2_with (go_at_call 70; refine (dmay_any x hxw _ _ (EnV.below (w := wr) ⟨_, _, _, rfl, HG.out.1, HG.out.2.1, HG.out.2.2⟩ HA2.out) ((HT.out.below HB.out).below HA2.out)).mono ?_; rw [HM.out]; rintro e w1 ⟨rfl, hb⟩; have HW1 := Aside0.mk (below_step HA2.out hb); clear hb)
        go_ret2
        exact ⟨HB.out.trans (HW1.out.mono HB.out.size), rfl⟩
    · obtain rfl : k = n := by omega
      have hrr : r = (0, some d) := by
        rw [← HR.out]
        unfold newR
        rw [if_neg (by have := HN.out; omega), HP.out.1, List.drop_of_length_le (by have := HN.out; omega)]
        rfl
      subst hrr
      go_wp2
      go_ret2
      exact ⟨HB.out, w.heap.size + 1 + 1, w.heap.size, w.heap.size + 1, rfl, by omega, by omega, by omega, HD.out⟩
end Go.Proofs.YtokebpeplopjhaaDoor.Mp
namespace Go.Proofs.YtokebpeplopjhaaDoor.Mp
open Go.RowKit Go.Shelf Go.Proofs.YtokebpeplopjhaaDoor.Rng Go.Proofs.YtokebpeplopjhaaDoorW.PrintWords Go.Proofs.YtokebpeplopjhaaDoorW.PrintMore Go.Proofs.YtokebpeplopjhaaDoorW.PrintLast

/-- A Map as a value. -/
abbrev mpV (i s b : Int) : Value := .agg #[.int .u16 i, .int .u8 s, .int .i64 b]
set_option maxRecDepth 100000 in
set_option maxHeartbeats 1000000 in
theorem fits_any (i s b t : Int) (ht : 0 ≤ t ∧ t < 256) (w : World) (h : Tbl w) :
    Calls Tryd.prog 113 #[mpV i s b, .int .u8 t] w fun e w' => e = .returned (.bool (decide (fitsC t b))) ∧ Below w.heap.size w w' := by
  have hb0 : Below w.heap.size w (w.alloc (.cells #[.int .u16 i, .int .u8 s, .int .i64 b] 48)) := below_alloc (Below.refl _ _) _
  have HZ := Aside0.mk (size_any t ht _ (h.below hb0))
  have hsz := siz_cases t
  have hbl := blk_new w (.cells #[.int .u16 i, .int .u8 s, .int .i64 b] 48)
  have HBL := Aside0.mk hbl
  clear hbl h
  have hr : ∀ r : Bool, (r = true ↔ fitsC t b) → decide (fitsC t b) = r := by
    intro r h
    by_cases hf : fitsC t b
    · rw [decide_eq_true hf, h.2 hf]
    · rw [decide_eq_false hf]
      cases r
      · rfl
      · exact absurd (h.1 rfl) hf
  by_cases hz : 0 < siz t
  · rw [decide_eq_true hz] at HZ
    have hf : fitsC t b ↔ (b = 8 * siz t ∨ (t = 1 ∧ b = 1)) := by unfold fitsC; simp [hz]
    replace hr := fun (r : Bool) (h : r = true ↔ (b = 8 * siz t ∨ (t = 1 ∧ b = 1))) => hr r (h.trans hf.symm)
    clear hf
    obtain ⟨z, hze⟩ : ∃ z, siz t = z := ⟨_, rfl⟩
    simp only [hze] at HZ hr hz hsz
    clear hze
    by_cases h1 : b = 8 * z
    · rw [hr true (by simp [h1])]
      subst h1
      go_enter Tryd.func113, Tryd.ntmps113
      go_wp2_with (go_at_call 129; refine HZ.out.mono ?_; rintro e w1 ⟨rfl, hb⟩; have HB := Aside0.mk hb; have hc2 := pw_cell_below hb (blk_cell HBL.out 2); clear hb)
      go_ret
      exact ⟨rfl, hb0.trans (HB.out.mono (by simp))⟩
    have h1b : (b == 8 * z) = false := by simpa using h1
    by_cases h2 : t = 1
    · subst h2
      by_cases h3 : b = 1
      · rw [hr true (by simp [h3])]
        subst h3
        go_enter Tryd.func113, Tryd.ntmps113
        go_wp2_with (go_at_call 129; refine HZ.out.mono ?_; rintro e w1 ⟨rfl, hb⟩; have HB := Aside0.mk hb; have hc2 := pw_cell_below hb (blk_cell HBL.out 2); clear hb)
        go_ret
        exact ⟨rfl, hb0.trans (HB.out.mono (by simp))⟩
      · rw [hr false (by simp [h1, h3])]
        have h3b : (b == 1) = false := by simpa using h3
        go_enter Tryd.func113, Tryd.ntmps113
        go_wp2_with (go_at_call 129; refine HZ.out.mono ?_; rintro e w1 ⟨rfl, hb⟩; have HB := Aside0.mk hb; have hc2 := pw_cell_below hb (blk_cell HBL.out 2); clear hb)
        go_ret
        exact ⟨rfl, hb0.trans (HB.out.mono (by simp))⟩
    · rw [hr false (by simp [h1, h2])]
      have h2b : (t == 1) = false := by simpa using h2
      go_enter Tryd.func113, Tryd.ntmps113
      go_wp2_with (go_at_call 129; refine HZ.out.mono ?_; rintro e w1 ⟨rfl, hb⟩; have HB := Aside0.mk hb; have hc2 := pw_cell_below hb (blk_cell HBL.out 2); clear hb)
      go_ret
      exact ⟨rfl, hb0.trans (HB.out.mono (by simp))⟩
  · rw [decide_eq_false hz] at HZ
    rw [hr false (by unfold fitsC; simp [hz])]
    go_enter Tryd.func113, Tryd.ntmps113
    go_wp2_with (go_at_call 129; refine HZ.out.mono ?_; rintro e w1 ⟨rfl, hb⟩; have HB := Aside0.mk hb; have hc2 := pw_cell_below hb (blk_cell HBL.out 2); clear hb)
    go_ret
    exact ⟨rfl, hb0.trans (HB.out.mono (by simp))⟩
/-- Of a Map's four answers: is it a gap? -/
theorem gap_iff (i s b : Int) : gapC ⟨i, s, b⟩ ↔ i < 256 ∧ s = 0 ∧ fitsC i b := Iff.rfl
set_option maxRecDepth 100000 in
set_option maxHeartbeats 1000000 in
theorem gap_any (i s b : Int) (hi : 0 ≤ i ∧ i < 65536) (w : World) (h : Tbl w) :
    Calls Tryd.prog 80 #[mpV i s b] w fun e w' => e = .returned (.bool (decide (gapC ⟨i, s, b⟩))) ∧ Below w.heap.size w w' := by
  have hb0 : Below w.heap.size w ((w.alloc (.cells #[.int .u16 i, .int .u8 s, .int .i64 b] 48)).alloc (.cells #[.int .u16 i, .int .u8 s] 33)) := (below_alloc (Below.refl _ _) _).alloc (by simp) _
  have HT := Aside0.mk (h.below hb0)
  clear h
  by_cases h1 : i < 256
  · by_cases h2 : s = 0
    · subst h2
      have HF := Aside0.mk (fits_any i 0 b i ⟨hi.1, h1⟩ _ HT.out)
      have e : decide (gapC ⟨i, 0, b⟩) = decide (fitsC i b) := by
        congr 1
        simp [gap_iff, h1]
      rw [e]
      generalize decide (fitsC i b) = r at HF ⊢
      go_enter Tryd.func80, Tryd.ntmps80
      go_wp2_with (go_at_call 113; refine HF.out.mono ?_; rintro e w1 ⟨rfl, hb⟩; have HB := Aside0.mk hb; clear hb)
      go_ret
      exact ⟨rfl, hb0.trans (HB.out.mono hb0.size)⟩
    · have h2b : (s == 0) = false := by simpa using h2
      rw [decide_eq_false (fun e => h2 e.2.1)]
      go_enter Tryd.func80, Tryd.ntmps80
      go_wp2
      go_ret
      exact ⟨rfl, hb0⟩
  · rw [decide_eq_false (fun e => h1 e.1)]
    have h1b : decide (i < 256) = false := by simpa using h1
    go_enter Tryd.func80, Tryd.ntmps80
    go_wp2
    go_ret
    exact ⟨rfl, hb0⟩
end Go.Proofs.YtokebpeplopjhaaDoor.Mp
namespace Go.Proofs.YtokebpeplopjhaaDoor.Mp
open Go.RowKit Go.Shelf Go.Proofs.YtokebpeplopjhaaDoor.Rng Go.Proofs.YtokebpeplopjhaaDoorW.PrintWords Go.Proofs.YtokebpeplopjhaaDoorW.PrintMore Go.Proofs.YtokebpeplopjhaaDoorW.PrintLast

def FddSaid (w : World) (r : It × Int) (e : Ending) (w' : World) : Prop := ∃ v, e = .returned (.tuple #[v, .int .u32 r.2]) ∧ EnV w' v r.1.toEn ∧ Below w.heap.size w w'
theorem fdd_end {tmps : Array Value} {W : World} {b : Nat} {cs : Array Value} {t : TypeId} {n : Int} (h4 : tmps.getD 4 undef = .pointer (some ⟨b, 0, none⟩)) (h5 : tmps.getD 5 undef = .int .u32 n) (hb : W.heap[b]? = some (.cells cs t (0, 0))) (hs : cs.size = 10) :
    (results Tryd.f112 tmps).run Tryd.prog W = .ok (.tuple #[.agg cs, .int .u32 n]) W := by
  rw [← h5]
  exact results_ct rfl tmps W b t cs (0, 0) _ h4 hb Tryd.underlying121 rfl (by rw [info_en, hs])
set_option maxRecDepth 100000 in
set_option maxHeartbeats 2000000 in
theorem fdd_any (B : Nat) (v : Value) (o : Option DD) (i s : Int) (hi : 0 ≤ i ∧ i < 65536) (hs : 0 ≤ s ∧ s < 256) (w : World) (h : DictV B w v o) :
    Calls Tryd.prog 112 #[v, pl i s] w (FddSaid w (findC o i s)) := by
  obtain ⟨W0, hW0⟩ : ∃ W0, ((w.alloc (.cells #[.int .u16 i, .int .u8 s] 33)).alloc (.cells #[.int .u16 0, .int .u8 0, .string { data := #[] }, .int .u8 0, .int .u8 0, .slice none 0 0, .slice none 0 0, .slice none 0 0, .int .u8 0, .int .u8 0] 121)) = W0 := ⟨_, rfl⟩
  have hb0 : Below w.heap.size w W0 := hW0 ▸ (below_alloc (Below.refl _ _) _).alloc (by simp) _
  have hr0 : W0.heap[w.heap.size + 1]? = some (.cells #[.int .u16 0, .int .u8 0, .string { data := #[] }, .int .u8 0, .int .u8 0, .slice none 0 0, .slice none 0 0, .slice none 0 0, .int .u8 0, .int .u8 0] 121 (0, 0)) := by
    have := blk_new (w.alloc (.cells #[.int .u16 i, .int .u8 s] 33)) (.cells #[.int .u16 0, .int .u8 0, .string { data := #[] }, .int .u8 0, .int .u8 0, .slice none 0 0, .slice none 0 0, .slice none 0 0, .int .u8 0, .int .u8 0] 121)
    rw [World.size_alloc, hW0] at this
    exact this
  have hc0 : W0.cell? ⟨w.heap.size, 0, none⟩ = some (.int .u16 i) := by
    rw [← hW0]
    exact blk_cell (blk_alloc (blk_new w _) _) 0
  have hc1 : W0.cell? ⟨w.heap.size, 1, none⟩ = some (.int .u8 s) := by
    rw [← hW0]
    exact blk_cell (blk_alloc (blk_new w _) _) 1
  have HF := Aside0.mk (find_any B v o i s hi hs W0 (h.below hb0))
  generalize findC o i s = r at HF ⊢
  obtain ⟨x, n⟩ := r
  have HB0 := Aside0.mk hb0
  have HR0 := Aside0.mk hr0
  clear h hb0 hr0
  go_enter Tryd.func112, Tryd.ntmps112
  go_wp2_with (first
    | (go_at_call 76; refine HF.out.mono ?_; rintro e w1 ⟨v0, rfl, hv, hb⟩; have HV := Aside0.mk hv; have HB := Aside0.mk hb; clear hb HF; obtain ⟨v1, v2, v3, v4, rfl, ⟨A1, a1, rfl, q1⟩, ⟨A2, a2, rfl, q2⟩, ⟨A3, a3, rfl, q3⟩, ⟨A4, a4, rfl, -⟩⟩ := hv; have HQ := Aside0.mk (And.intro q1 (And.intro q2 q3)); clear q1 q2 q3)
    | (go_at_call 71; refine (lend_any x.toEn _ _ (EnV.below (w := w1) ⟨_, _, _, rfl, ⟨_, _, rfl, HQ.out.1⟩, ⟨_, _, rfl, HQ.out.2.1⟩, ⟨_, _, rfl, HQ.out.2.2⟩⟩ (below_alloc (Below.refl _ _) _))).mono ?_; rintro e w2 ⟨v5, rfl, hv5, hb2, hO⟩; obtain ⟨_, _, _, rfl, ⟨B1, b1, rfl, p1⟩, ⟨B2, b2, rfl, p2⟩, ⟨B3, b3, rfl, p3⟩⟩ := hv5; have HP := Aside0.mk (And.intro p1 (And.intro p2 p3)); have HO := Aside0.mk (And.intro (hO _ rfl 5 B1 _ b1 (.inl rfl) rfl) (And.intro (hO _ rfl 6 B2 _ b2 (.inr (.inl rfl)) rfl) (hO _ rfl 7 B3 _ b3 (.inr (.inr rfl)) rfl))); have HB2 := Aside0.mk (below_step (below_alloc (Below.refl w1.heap.size w1) _) hb2); have hr2 := blk_below (blk_below HR0.out HB.out) HB2.out; obtain ⟨k0, k1, k2, k3, k4, k5, k6, k7, k8, k9, kf⟩ := held10 hr2; have HR2 := Aside0.mk hr2; clear hb2 p1 p2 p3 hr2 hO))
  rw [cells10]
  have hsz : w.heap.size + 1 < w1.heap.size := Nat.lt_of_lt_of_le (blk_lt HR0.out) HB.out.size
  have mk : ∀ {A a l}, (Arg w2 A a l ∧ l.length ≤ 140737488355328) → Off (fun k => k < (w1.alloc (.cells #[.int .u16 x.ix, .int .u8 x.sub, .string x.name, .int .u8 x.ty, .int .u8 x.rt, .slice A1 x.df.length a1, .slice A2 x.lo.length a2, .slice A3 x.hi.length a3, .int .u8 x.tag, .int .u8 x.grp, .slice A4 x.val.length a4] 128)).heap.size) A l.length → ArgN (w.heap.size + 1) w2 (.slice A l.length a) l := fun h ho => ⟨_, _, rfl, h.1, h.2, fun ad e hn hk => ho ad e hn (by show ad.block < _; rw [show ad.block = w.heap.size + 1 from hk]; simp; omega)⟩
  refine bodyPost_ret (fdd_end (b := w.heap.size + 1) (cs := #[.int .u16 x.ix, .int .u8 x.sub, .string x.name, .int .u8 x.ty, .int .u8 x.rt, .slice B1 x.df.length b1, .slice B2 x.lo.length b2, .slice B3 x.hi.length b3, .int .u8 x.tag, .int .u8 x.grp]) (t := 121) rfl rfl ?_ rfl) rfl ⟨_, rfl, ⟨_, _, _, rfl, (mk HP.out.1 HO.out.1).cellsO _ _, (mk HP.out.2.1 HO.out.2.1).cellsO _ _, (mk HP.out.2.2 HO.out.2.2).cellsO _ _⟩, ?_⟩
  · exact row10 HR2.out ..
  · exact below_cells (by omega) _ _ (HB0.out.trans ((HB.out.trans (HB2.out.mono HB.out.size)).mono HB0.out.size))
theorem u8_want (r : Int) (h : 0 ≤ r ∧ r < 256) : (bits .and .u8 r 5 == 5) = decide (r / 4 % 2 = 1 ∧ r % 2 = 1) ∧ (bits .and .u8 r 6 == 6) = decide (r / 4 % 2 = 1 ∧ r / 2 % 2 = 1) := by
  obtain ⟨n, rfl⟩ := Int.eq_ofNat_of_zero_le h.1
  have hn : n < 256 := by omega
  have all : ∀ j : Fin 256, (bits .and .u8 ((j.val : Nat) : Int) 5 == 5) = decide (((j.val : Nat) : Int) / 4 % 2 = 1 ∧ ((j.val : Nat) : Int) % 2 = 1) ∧ (bits .and .u8 ((j.val : Nat) : Int) 6 == 6) = decide (((j.val : Nat) : Int) / 4 % 2 = 1 ∧ ((j.val : Nat) : Int) / 2 % 2 = 1) := by decide +kernel
  exact all ⟨n, hn⟩
theorem held3 {W : World} {g : Nat} {t : TypeId} {u0 u1 u2 : Value} (h : W.heap[g]? = some (.cells #[u0, u1, u2] t (0, 0))) : W.cell? ⟨g, 0, none⟩ = some u0 ∧ W.cell? ⟨g, 1, none⟩ = some u1 ∧ W.cell? ⟨g, 2, none⟩ = some u2 ∧ ∀ j, W.frozen? ⟨g, j, none⟩ = false :=
  ⟨blk_cell h 0, blk_cell h 1, blk_cell h 2, fun j => blk_frozen h j⟩
def ChkOne (w : World) (r : Int) (e : Ending) (w' : World) : Prop := e = .returned (.int .u32 r) ∧ Below w.heap.size w w'
set_option maxRecDepth 100000 in
set_option maxHeartbeats 2000000 in
theorem one_any (B : Nat) (v : Value) (o : Option DD) (m : Mp) (hi : 0 ≤ m.ix ∧ m.ix < 65536) (hs : 0 ≤ m.sub ∧ m.sub < 256) (out : Bool) (w : World) (h : DictV B w v o) (ht : Tbl w) (hwf : (findC o m.ix m.sub).1.Wf) :
    Calls Tryd.prog 74 #[mpV m.ix m.sub m.bits, v, .bool out] w (ChkOne w (oneC o out m)) := by
  obtain ⟨i, s, b⟩ := m
  simp only at hi hs hwf ⊢
  have hb0 : Below w.heap.size w (w.alloc (.cells #[.int .u16 i, .int .u8 s, .int .i64 b] 48)) := below_alloc (Below.refl _ _) _
  have hrow := blk_new w (.cells #[.int .u16 i, .int .u8 s, .int .i64 b] 48)
  have HROW := Aside0.mk hrow
  have HT := Aside0.mk (ht.below hb0)
  have HG := Aside0.mk (gap_any i s b hi _ HT.out)
  have HF := Aside0.mk fun W (hW : Below (w.alloc (.cells #[.int .u16 i, .int .u8 s, .int .i64 b] 48)).heap.size (w.alloc (.cells #[.int .u16 i, .int .u8 s, .int .i64 b] 48)) W) => fdd_any B v o i s hi hs W ((h.below hb0).below hW)
  obtain ⟨r, hr⟩ : ∃ r, oneC o out ⟨i, s, b⟩ = r := ⟨_, rfl⟩
  rw [hr]
  unfold oneC at hr
  simp only at hr
  generalize findC o i s = q at HF hr hwf
  obtain ⟨x, n⟩ := q
  simp only at hr hwf
  have HFI := Aside0.mk fun W (hW : Below (w.alloc (.cells #[.int .u16 i, .int .u8 s, .int .i64 b] 48)).heap.size (w.alloc (.cells #[.int .u16 i, .int .u8 s, .int .i64 b] 48)) W) => fits_any i s b x.ty hwf.ty W (HT.out.below hW)
  have hw5 := (u8_want x.rt hwf.rt).1
  have hw6 := (u8_want x.rt hwf.rt).2
  clear hrow ht h hwf
  by_cases hg : gapC ⟨i, s, b⟩
  · rw [if_pos hg] at hr
    rw [decide_eq_true hg] at HG
    cases out
    all_goals
      simp at hr
      subst hr
      go_enter Tryd.func74, Tryd.ntmps74
      go_wp2_with (go_at_call 80; refine HG.out.mono ?_; rintro e w1 ⟨rfl, hb⟩; have HB := Aside0.mk hb; clear hb)
      go_ret
      exact ⟨rfl, hb0.trans (HB.out.mono (by simp))⟩
  · rw [if_neg hg] at hr
    rw [decide_eq_false hg] at HG
    by_cases hn : n = 0
    · subst hn
      rw [if_neg (by simp)] at hr
      by_cases hw : wantC x.rt out
      · have f5 : out = true → (bits .and .u8 x.rt 5 == 5) = true ∧ (bits .and .u8 x.rt 5 != 5) = false := fun e => by
          subst e
          have : (bits .and .u8 x.rt 5 == 5) = true := by rw [hw5]; exact decide_eq_true ⟨hw.1, by simpa using hw.2⟩
          exact ⟨this, by unfold bne; rw [this]; rfl⟩
        have f6 : out = false → (bits .and .u8 x.rt 6 == 6) = true ∧ (bits .and .u8 x.rt 6 != 6) = false := fun e => by
          subst e
          have : (bits .and .u8 x.rt 6 == 6) = true := by rw [hw6]; exact decide_eq_true ⟨hw.1, by simpa using hw.2⟩
          exact ⟨this, by unfold bne; rw [this]; rfl⟩
        by_cases hfi : fitsC x.ty b
        · rw [if_pos ⟨hw, hfi⟩] at hr
          simp only [hfi, decide_true] at HFI
          subst hr
          cases out
          · obtain ⟨g1, g2⟩ := f6 rfl
            clear f5 f6 hw5 hw6
            go_enter Tryd.func74, Tryd.ntmps74
            go_wp2_with (first
              | (go_at_call 80; refine HG.out.mono ?_; rintro e w1 ⟨rfl, hb⟩; have HB := Aside0.mk hb; obtain ⟨c0, c1, c2, -⟩ := held3 (blk_below HROW.out hb); clear hb)
              | (go_at_call 112; refine (HF.out _ HB.out).mono ?_; rintro e w2 ⟨v0, rfl, hv, hb2⟩; obtain ⟨v1, v2, v3, rfl, ⟨A1, a1, rfl, -⟩, ⟨A2, a2, rfl, -⟩, ⟨A3, a3, rfl, -⟩⟩ := hv; have HB2 := Aside0.mk (HB.out.trans (hb2.mono HB.out.size)); have d0 := fun o => (held3 (blk_alloc (blk_below HROW.out HB2.out) o)).1; have d1 := fun o => (held3 (blk_alloc (blk_below HROW.out HB2.out) o)).2.1; have d2 := fun o => (held3 (blk_alloc (blk_below HROW.out HB2.out) o)).2.2.1; clear hb2)
              | (go_at_call 113; refine (HFI.out _ (HB2.out.alloc HB2.out.size _)).mono ?_; rintro e w3 ⟨rfl, hb3⟩; have HB3 := Aside0.mk (below_step (HB2.out.alloc HB2.out.size _) hb3); clear hb3))
            go_ret
            exact ⟨rfl, hb0.trans (HB3.out.mono (by simp))⟩
          · obtain ⟨g1, g2⟩ := f5 rfl
            clear f5 f6 hw5 hw6
            go_enter Tryd.func74, Tryd.ntmps74
            go_wp2_with (first
              | (go_at_call 80; refine HG.out.mono ?_; rintro e w1 ⟨rfl, hb⟩; have HB := Aside0.mk hb; obtain ⟨c0, c1, c2, -⟩ := held3 (blk_below HROW.out hb); clear hb)
              | (go_at_call 112; refine (HF.out _ HB.out).mono ?_; rintro e w2 ⟨v0, rfl, hv, hb2⟩; obtain ⟨v1, v2, v3, rfl, ⟨A1, a1, rfl, -⟩, ⟨A2, a2, rfl, -⟩, ⟨A3, a3, rfl, -⟩⟩ := hv; have HB2 := Aside0.mk (HB.out.trans (hb2.mono HB.out.size)); have d0 := fun o => (held3 (blk_alloc (blk_below HROW.out HB2.out) o)).1; have d1 := fun o => (held3 (blk_alloc (blk_below HROW.out HB2.out) o)).2.1; have d2 := fun o => (held3 (blk_alloc (blk_below HROW.out HB2.out) o)).2.2.1; clear hb2)
              | (go_at_call 113; refine (HFI.out _ (HB2.out.alloc HB2.out.size _)).mono ?_; rintro e w3 ⟨rfl, hb3⟩; have HB3 := Aside0.mk (below_step (HB2.out.alloc HB2.out.size _) hb3); clear hb3))
            go_ret
            exact ⟨rfl, hb0.trans (HB3.out.mono (by simp))⟩
        · rw [if_neg (fun e => hfi e.2)] at hr
          simp only [hfi, decide_false] at HFI
          subst hr
          cases out
          · obtain ⟨g1, g2⟩ := f6 rfl
            clear f5 f6 hw5 hw6
            go_enter Tryd.func74, Tryd.ntmps74
            go_wp2_with (first
              | (go_at_call 80; refine HG.out.mono ?_; rintro e w1 ⟨rfl, hb⟩; have HB := Aside0.mk hb; obtain ⟨c0, c1, c2, -⟩ := held3 (blk_below HROW.out hb); clear hb)
              | (go_at_call 112; refine (HF.out _ HB.out).mono ?_; rintro e w2 ⟨v0, rfl, hv, hb2⟩; obtain ⟨v1, v2, v3, rfl, ⟨A1, a1, rfl, -⟩, ⟨A2, a2, rfl, -⟩, ⟨A3, a3, rfl, -⟩⟩ := hv; have HB2 := Aside0.mk (HB.out.trans (hb2.mono HB.out.size)); have d0 := fun o => (held3 (blk_alloc (blk_below HROW.out HB2.out) o)).1; have d1 := fun o => (held3 (blk_alloc (blk_below HROW.out HB2.out) o)).2.1; have d2 := fun o => (held3 (blk_alloc (blk_below HROW.out HB2.out) o)).2.2.1; clear hb2)
              | (go_at_call 113; refine (HFI.out _ (HB2.out.alloc HB2.out.size _)).mono ?_; rintro e w3 ⟨rfl, hb3⟩; have HB3 := Aside0.mk (below_step (HB2.out.alloc HB2.out.size _) hb3); clear hb3))
            go_ret
            exact ⟨rfl, hb0.trans (HB3.out.mono (by simp))⟩
          · obtain ⟨g1, g2⟩ := f5 rfl
            clear f5 f6 hw5 hw6
            go_enter Tryd.func74, Tryd.ntmps74
            go_wp2_with (first
              | (go_at_call 80; refine HG.out.mono ?_; rintro e w1 ⟨rfl, hb⟩; have HB := Aside0.mk hb; obtain ⟨c0, c1, c2, -⟩ := held3 (blk_below HROW.out hb); clear hb)
              | (go_at_call 112; refine (HF.out _ HB.out).mono ?_; rintro e w2 ⟨v0, rfl, hv, hb2⟩; obtain ⟨v1, v2, v3, rfl, ⟨A1, a1, rfl, -⟩, ⟨A2, a2, rfl, -⟩, ⟨A3, a3, rfl, -⟩⟩ := hv; have HB2 := Aside0.mk (HB.out.trans (hb2.mono HB.out.size)); have d0 := fun o => (held3 (blk_alloc (blk_below HROW.out HB2.out) o)).1; have d1 := fun o => (held3 (blk_alloc (blk_below HROW.out HB2.out) o)).2.1; have d2 := fun o => (held3 (blk_alloc (blk_below HROW.out HB2.out) o)).2.2.1; clear hb2)
              | (go_at_call 113; refine (HFI.out _ (HB2.out.alloc HB2.out.size _)).mono ?_; rintro e w3 ⟨rfl, hb3⟩; have HB3 := Aside0.mk (below_step (HB2.out.alloc HB2.out.size _) hb3); clear hb3))
            go_ret
            exact ⟨rfl, hb0.trans (HB3.out.mono (by simp))⟩
      · have f5 : out = true → (bits .and .u8 x.rt 5 == 5) = false ∧ (bits .and .u8 x.rt 5 != 5) = true := fun e => by
          subst e
          have : (bits .and .u8 x.rt 5 == 5) = false := by rw [hw5]; exact decide_eq_false (fun h => hw ⟨h.1, by simpa using h.2⟩)
          exact ⟨this, by unfold bne; rw [this]; rfl⟩
        have f6 : out = false → (bits .and .u8 x.rt 6 == 6) = false ∧ (bits .and .u8 x.rt 6 != 6) = true := fun e => by
          subst e
          have : (bits .and .u8 x.rt 6 == 6) = false := by rw [hw6]; exact decide_eq_false (fun h => hw ⟨h.1, by simpa using h.2⟩)
          exact ⟨this, by unfold bne; rw [this]; rfl⟩
        rw [if_neg (fun e => hw e.1)] at hr
        subst hr
        cases out
        · obtain ⟨g1, g2⟩ := f6 rfl
          clear f5 f6 hw5 hw6
          go_enter Tryd.func74, Tryd.ntmps74
          go_wp2_with (first
            | (go_at_call 80; refine HG.out.mono ?_; rintro e w1 ⟨rfl, hb⟩; have HB := Aside0.mk hb; obtain ⟨c0, c1, c2, -⟩ := held3 (blk_below HROW.out hb); clear hb)
            | (go_at_call 112; refine (HF.out _ HB.out).mono ?_; rintro e w2 ⟨v0, rfl, hv, hb2⟩; obtain ⟨v1, v2, v3, rfl, ⟨A1, a1, rfl, -⟩, ⟨A2, a2, rfl, -⟩, ⟨A3, a3, rfl, -⟩⟩ := hv; have HB2 := Aside0.mk (HB.out.trans (hb2.mono HB.out.size)); have d0 := fun o => (held3 (blk_alloc (blk_below HROW.out HB2.out) o)).1; have d1 := fun o => (held3 (blk_alloc (blk_below HROW.out HB2.out) o)).2.1; have d2 := fun o => (held3 (blk_alloc (blk_below HROW.out HB2.out) o)).2.2.1; clear hb2)
            | (go_at_call 113; refine (HFI.out _ (HB2.out.alloc HB2.out.size _)).mono ?_; rintro e w3 ⟨rfl, hb3⟩; have HB3 := Aside0.mk (below_step (HB2.out.alloc HB2.out.size _) hb3); clear hb3))
          go_ret
          exact ⟨rfl, hb0.trans ((HB2.out.alloc HB2.out.size _).mono (by simp))⟩
        · obtain ⟨g1, g2⟩ := f5 rfl
          clear f5 f6 hw5 hw6
          go_enter Tryd.func74, Tryd.ntmps74
          go_wp2_with (first
            | (go_at_call 80; refine HG.out.mono ?_; rintro e w1 ⟨rfl, hb⟩; have HB := Aside0.mk hb; obtain ⟨c0, c1, c2, -⟩ := held3 (blk_below HROW.out hb); clear hb)
            | (go_at_call 112; refine (HF.out _ HB.out).mono ?_; rintro e w2 ⟨v0, rfl, hv, hb2⟩; obtain ⟨v1, v2, v3, rfl, ⟨A1, a1, rfl, -⟩, ⟨A2, a2, rfl, -⟩, ⟨A3, a3, rfl, -⟩⟩ := hv; have HB2 := Aside0.mk (HB.out.trans (hb2.mono HB.out.size)); have d0 := fun o => (held3 (blk_alloc (blk_below HROW.out HB2.out) o)).1; have d1 := fun o => (held3 (blk_alloc (blk_below HROW.out HB2.out) o)).2.1; have d2 := fun o => (held3 (blk_alloc (blk_below HROW.out HB2.out) o)).2.2.1; clear hb2)
            | (go_at_call 113; refine (HFI.out _ (HB2.out.alloc HB2.out.size _)).mono ?_; rintro e w3 ⟨rfl, hb3⟩; have HB3 := Aside0.mk (below_step (HB2.out.alloc HB2.out.size _) hb3); clear hb3))
          go_ret
          exact ⟨rfl, hb0.trans ((HB2.out.alloc HB2.out.size _).mono (by simp))⟩
    · rw [if_pos hn] at hr
      have g1 : (n == 0) = false := by simpa using hn
      have g2 : (n != 0) = true := by simpa using hn
      subst hr
      clear hw5 hw6
      cases out
      all_goals
        go_enter Tryd.func74, Tryd.ntmps74
        go_wp2_with (first
          | (go_at_call 80; refine HG.out.mono ?_; rintro e w1 ⟨rfl, hb⟩; have HB := Aside0.mk hb; obtain ⟨c0, c1, c2, -⟩ := held3 (blk_below HROW.out hb); clear hb)
          | (go_at_call 112; refine (HF.out _ HB.out).mono ?_; rintro e w2 ⟨v0, rfl, hv, hb2⟩; obtain ⟨v1, v2, v3, rfl, ⟨A1, a1, rfl, -⟩, ⟨A2, a2, rfl, -⟩, ⟨A3, a3, rfl, -⟩⟩ := hv; have HB2 := Aside0.mk (HB.out.trans (hb2.mono HB.out.size)); have d0 := fun o => (held3 (blk_alloc (blk_below HROW.out HB2.out) o)).1; have d1 := fun o => (held3 (blk_alloc (blk_below HROW.out HB2.out) o)).2.1; have d2 := fun o => (held3 (blk_alloc (blk_below HROW.out HB2.out) o)).2.2.1; clear hb2)
          | (go_at_call 113; refine (HFI.out _ (HB2.out.alloc HB2.out.size _)).mono ?_; rintro e w3 ⟨rfl, hb3⟩; have HB3 := Aside0.mk (below_step (HB2.out.alloc HB2.out.size _) hb3); clear hb3))
        go_ret
        exact ⟨rfl, hb0.trans ((HB2.out.alloc HB2.out.size _).mono (by simp))⟩
end Go.Proofs.YtokebpeplopjhaaDoor.Mp
namespace Go.Proofs.YtokebpeplopjhaaDoor.Mp
open Go.RowKit Go.Shelf Go.Proofs.YtokebpeplopjhaaDoor.Rng Go.Proofs.YtokebpeplopjhaaDoorW.PrintWords Go.Proofs.YtokebpeplopjhaaDoorW.PrintMore Go.Proofs.YtokebpeplopjhaaDoorW.PrintLast

/-- A Map that may be. -/
def Mp.Wf (m : Mp) : Prop := (0 ≤ m.ix ∧ m.ix < 65536) ∧ (0 ≤ m.sub ∧ m.sub < 256) ∧ (-9223372036854775808 ≤ m.bits ∧ m.bits ≤ 9223372036854775807)
/-- A row of Maps. -/
def MsAt (w : World) (A : Option Addr) (l : List Mp) : Prop := ∀ (j : Nat) m, l[j]? = some m → ∃ ad, A = some ad ∧ w.cell? (ad.add (j * 3)) = some (.int .u16 m.ix) ∧ w.cell? ⟨(ad.add (j * 3)).block, (ad.add (j * 3)).off + 1, none⟩ = some (.int .u8 m.sub) ∧ w.cell? ⟨(ad.add (j * 3)).block, (ad.add (j * 3)).off + 2, none⟩ = some (.int .i64 m.bits)
theorem MsAt.below {w w' : World} {A : Option Addr} {l : List Mp} (h : MsAt w A l) (hb : Below w.heap.size w w') : MsAt w' A l := by
  intro j m hj
  obtain ⟨ad, hA, h1, h2, h3⟩ := h j m hj
  exact ⟨ad, hA, pw_cell_below hb h1, pw_cell_below hb h2, pw_cell_below hb h3⟩
theorem sumC_take (l : List Mp) (k : Nat) (m : Mp) (h : l[k]? = some m) : sumC (l.take (k + 1)) = sumC (l.take k) + m.bits := by
  unfold sumC
  rw [List.take_add_one, h]
  simp
theorem sumC_nonneg {l : List Mp} (h : ∀ m ∈ l, 0 ≤ m.bits) : 0 ≤ sumC l := by
  induction l with
  | nil => simp [sumC]
  | cons a r ih =>
    have h1 := h a (by simp)
    have h2 := ih (fun m hm => h m (by simp [hm]))
    simp only [sumC, List.map_cons, List.sum_cons] at h2 ⊢
    omega
theorem sumC_le {l : List Mp} (h : ∀ m ∈ l, 0 ≤ m.bits) (k : Nat) : 0 ≤ sumC (l.take k) ∧ sumC (l.take k) ≤ sumC l := by
  refine ⟨sumC_nonneg (fun m hm => h m (List.mem_of_mem_take hm)), ?_⟩
  have h1 := sumC_nonneg (l := l.drop k) (fun m hm => h m (List.mem_of_mem_drop hm))
  have h2 : sumC l = sumC (l.take k) + sumC (l.drop k) := by
    unfold sumC
    rw [← List.sum_append, ← List.map_append, List.take_append_drop]
  omega
set_option maxRecDepth 100000 in
set_option maxHeartbeats 2000000 in
theorem msize_any (l : List Mp) (A : Option Addr) (c : Nat) (w : World) (h : MsAt w A l) (hl : l.length ≤ 1000000) (hb : ∀ m ∈ l, 0 ≤ m.bits) (hs : sumC l ≤ 64) :
    Calls Tryd.prog 23 #[.slice A l.length c] w fun e w' => e = .returned (.int .i64 (sizeC l : Nat)) ∧ Below w.heap.size w w' := by
  have HM := Aside0.mk h
  have HBT := Aside0.mk hb
  obtain ⟨n, hn⟩ : ∃ n, l.length = n := ⟨_, rfl⟩
  have HN := Aside0.mk hn
  have HS := Aside0.mk hs
  rw [hn] at hl ⊢
  clear h hb hn hs
  go_enter Tryd.func23, Tryd.ntmps23
  go_wp2
  go_loopw [3, 8] (fun sm i wr => ∃ (k : Nat), k ≤ n ∧ i = .int .i64 k ∧ sm = .int .i64 (sumC (l.take k)) ∧ Aside0 (Below w.heap.size w wr)) (fun _ i _ => n - (intOf i).toNat)
  case atStart => exact ⟨0, Nat.zero_le _, rfl, rfl, ⟨Below.refl _ _⟩⟩
  case round =>
    obtain ⟨k, hk, rfl, rfl, HB⟩ := hrel
    have hsb := sumC_le HBT.out k
    have hs64 := HS.out
    by_cases hlt : k < n
    · obtain ⟨m, hm⟩ : ∃ m, l[k]? = some m := ⟨_, List.getElem?_eq_getElem (by rw [HN.out]; exact hlt)⟩
      obtain ⟨ad, rfl, y0, y1, y2⟩ := HM.out.below HB.out k m hm
      have hst := sumC_take l k m hm
      have hsb2 := sumC_le HBT.out (k + 1)
      rw [hst] at hsb2
      have HST := Aside0.mk hst
      obtain ⟨s, hse⟩ : ∃ s, sumC (l.take k) = s := ⟨_, rfl⟩
      rw [hse] at hsb hsb2 HST ⊢
      have hq : 0 ≤ s + m.bits ∧ s + m.bits ≤ 64 := by omega
      have hq2 : 0 ≤ m.bits ∧ m.bits ≤ 64 := by have := HBT.out m (List.mem_of_getElem? hm); omega
      have hq3 : 0 ≤ s ∧ s ≤ 64 := by omega
      clear hsb2 hsb hs64 hm hse hst
      go_wp2
      go_roundw
      case rel => exact ⟨k + 1, by omega, by go_num, by rw [HST.out], ⟨HB.out.alloc HB.out.size _⟩⟩
      case measure => simp [intOf]; omega
    · obtain rfl : k = n := by omega
      have hz : sumC (l.take k) = sumC l := by rw [List.take_of_length_le (by rw [HN.out]; exact Nat.le_refl _)]
      rw [hz] at hsb ⊢
      go_wp2
      go_ret
      refine ⟨ret_i ?_, HB.out⟩
      unfold sizeC
      rw [Int.toNat_of_nonneg (by omega)]
end Go.Proofs.YtokebpeplopjhaaDoor.Mp
namespace Go.Proofs.YtokebpeplopjhaaDoor.Mp
open Go.RowKit Go.Shelf Go.Proofs.YtokebpeplopjhaaDoor.Rng Go.Proofs.YtokebpeplopjhaaDoorW.PrintWords Go.Proofs.YtokebpeplopjhaaDoorW.PrintMore Go.Proofs.YtokebpeplopjhaaDoorW.PrintLast

set_option maxRecDepth 100000 in
set_option maxHeartbeats 2000000 in
theorem mcheck_any (B : Nat) (v : Value) (o : Option DD) (l : List Mp) (A : Option Addr) (c : Nat) (out : Bool) (w : World) (h : DictV B w v o) (ht : Tbl w) (hm : MsAt w A l) (hl : l.length ≤ 1000000) (hmw : ∀ m ∈ l, m.Wf) (hwf : ∀ i s, (findC o i s).1.Wf) :
    Calls Tryd.prog 21 #[v, .slice A l.length c, .bool out] w (ChkOne w (checkC o l out)) := by
  obtain ⟨r, hr⟩ : ∃ r, checkC o l out = r := ⟨_, rfl⟩
  rw [hr]
  unfold checkC at hr
  have HD := Aside0.mk h
  have HT := Aside0.mk ht
  have HM := Aside0.mk hm
  have HMW := Aside0.mk hmw
  have HWF := Aside0.mk hwf
  obtain ⟨n, hn⟩ : ∃ n, l.length = n := ⟨_, rfl⟩
  have HN := Aside0.mk hn
  rw [hn] at hr hl ⊢
  clear h ht hm hmw hwf hn
  by_cases h64 : 64 < n
  · rw [if_pos h64] at hr
    subst hr
    go_enter Tryd.func21, Tryd.ntmps21
    go_wp2
    go_ret
    exact ⟨rfl, Below.refl _ _⟩
  · rw [if_neg h64] at hr
    have HR := Aside0.mk hr
    clear hr
    go_enter Tryd.func21, Tryd.ntmps21
    go_wp2
    go_loopw [7, 16] (fun lf i wr => ∃ (k : Nat) (left : Int), k ≤ n ∧ i = .int .i64 k ∧ lf = .int .i64 left ∧ 0 ≤ left ∧ left ≤ 64 ∧ Aside0 (checkL o out l 64 = checkL o out (l.drop k) left) ∧ Aside0 (Below w.heap.size w wr)) (fun _ i _ => n - (intOf i).toNat)
    case atStart => exact ⟨0, 64, Nat.zero_le _, rfl, rfl, by omega, by omega, ⟨rfl⟩, ⟨Below.refl _ _⟩⟩
    case round =>
      obtain ⟨k, left, hk, rfl, rfl, hl0, hl1, HC, HB⟩ := hrel
      by_cases hlt : k < n
      · obtain ⟨m, hmk⟩ : ∃ m, l[k]? = some m := ⟨_, List.getElem?_eq_getElem (by rw [HN.out]; exact hlt)⟩
        obtain ⟨ad, rfl, y0, y1, y2⟩ := HM.out.below HB.out k m hmk
        obtain ⟨hw1, hw2, hw3⟩ := HMW.out m (List.mem_of_getElem? hmk)
        have hdrop : l.drop k = m :: l.drop (k + 1) := by
          have hkl : k < l.length := by rw [HN.out]; exact hlt
          rw [List.drop_eq_getElem_cons hkl]
          rw [List.getElem?_eq_getElem hkl] at hmk
          injection hmk with hmk
          rw [hmk]
        have hc := HC.out
        rw [hdrop] at hc
        rw [show checkL o out (m :: l.drop (k + 1)) left = if oneC o out m ≠ 0 then oneC o out m else if left - m.bits < 0 then 0x06040042 else checkL o out (l.drop (k + 1)) (left - m.bits) from rfl] at hc
        have hb1 : Below wr.heap.size wr (wr.alloc (.cells #[.int .u16 m.ix, .int .u8 m.sub, .int .i64 m.bits] 48)) := below_alloc (Below.refl _ _) _
        have HO := Aside0.mk (one_any B v o m hw1 hw2 out _ ((HD.out.below HB.out).below hb1) ((HT.out.below HB.out).below hb1) (HWF.out m.ix m.sub))
        have HBL := Aside0.mk (blk_new wr (.cells #[.int .u16 m.ix, .int .u8 m.sub, .int .i64 m.bits] 48))
        have HB1 := Aside0.mk hb1
        obtain ⟨q, hq⟩ : ∃ q, oneC o out m = q := ⟨_, rfl⟩
        have hbits : q = 0 → 1 ≤ m.bits ∧ m.bits ≤ 64 := fun e => one_bits (hq.trans e)
        rw [hq] at HO hc
        clear hdrop hmk hq hb1
        by_cases hq0 : q = 0
        · obtain ⟨hb2, hb3⟩ := hbits hq0
          subst hq0
          rw [if_neg (by simp)] at hc
          clear hbits
          by_cases hneg : left - m.bits < 0
          · rw [if_pos hneg] at hc
            have hrr : r = 100925506 := by rw [← HR.out, hc]
            subst hrr
            go_wp2_with (go_at_call 74; refine HO.out.mono ?_; rintro e w1 ⟨rfl, hb⟩; have HB2 := Aside0.mk (HB.out.trans ((HB1.out.trans (hb.mono HB1.out.size)).mono HB.out.size)); have hc2 := pw_cell_below hb (blk_cell HBL.out 2); clear hb)
            go_ret
            exact ⟨rfl, HB2.out⟩
          · rw [if_neg hneg] at hc
            have HC2 := Aside0.mk hc
            go_wp2_with (go_at_call 74; refine HO.out.mono ?_; rintro e w1 ⟨rfl, hb⟩; have HB2 := Aside0.mk (HB.out.trans ((HB1.out.trans (hb.mono HB1.out.size)).mono HB.out.size)); have hc2 := pw_cell_below hb (blk_cell HBL.out 2); clear hb)
            go_roundw
            case rel => exact ⟨k + 1, left - m.bits, by omega, by go_num, rfl, by omega, by omega, HC2, HB2⟩
            case measure => simp [intOf]; omega
        · have g1 : (q == 0) = false := by simpa using hq0
          have g2 : (q != 0) = true := by simpa using hq0
          rw [if_pos hq0] at hc
          have hrr : r = q := by rw [← HR.out, hc]
          subst hrr
          clear hbits
          go_wp2_with (go_at_call 74; refine HO.out.mono ?_; rintro e w1 ⟨rfl, hb⟩; have HB2 := Aside0.mk (HB.out.trans ((HB1.out.trans (hb.mono HB1.out.size)).mono HB.out.size)); have hc2 := pw_cell_below hb (blk_cell HBL.out 2); clear hb)
          go_ret
          exact ⟨rfl, HB2.out⟩
      · obtain rfl : k = n := by omega
        have hrr : r = 0 := by
          rw [← HR.out, HC.out, List.drop_of_length_le (by rw [HN.out]; exact Nat.le_refl _)]
          rfl
        subst hrr
        go_wp2
        go_ret
        exact ⟨rfl, HB.out⟩
end Go.Proofs.YtokebpeplopjhaaDoor.Mp
