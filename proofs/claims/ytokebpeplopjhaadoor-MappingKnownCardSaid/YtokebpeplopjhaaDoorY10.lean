/- There and back, plainly: what is packed of one dictionary, unpacked and written to another one of the same entries. Rows of values for places, as arguments; a dictionary beside a store into another one. MappingBack, walked. -/
import Derived.Test.YtokebpeplopjhaaDoorY9
import Derived.Deep.RegionHeld3
namespace Go.Proofs.YtokebpeplopjhaaDoor.Mp
open Go.Proofs.YtokebpeplopjhaaDoor.Num

/-- Two dictionaries of the same entries. -/
structure SameE (d x : DD) : Prop where
  it : ∀ i s, (d.D i s).map It.toEn = (x.D i s).map It.toEn
  n : ∀ i, d.S i = x.S i
theorem SameE.refl (d : DD) : SameE d d := ⟨fun _ _ => rfl, fun _ => rfl⟩
theorem SameE.may {d x : DD} (h : SameE d x) (i s : Int) (b : List Int) : mayW (some d) i s b = mayW (some x) i s b := by
  have h1 := h.it i s
  have h2 := h.n i
  cases hd : d.D i s with
  | none =>
    rw [hd] at h1
    cases hx : x.D i s with
    | none => simp only [mayW, findC, DD.at, hd, hx, h2]
    | some y => rw [hx] at h1; simp at h1
  | some z =>
    rw [hd] at h1
    cases hx : x.D i s with
    | none => rw [hx] at h1; simp at h1
    | some y =>
      rw [hx] at h1
      simp only [Option.map_some, Option.some.injEq] at h1
      simp only [mayW, findC, DD.at, hd, hx, h1]
theorem SameE.check {d x : DD} (h : SameE d x) (l : List Mp) (out : Bool) : checkC (some d) l out = checkC (some x) l out := by
  have ho : ∀ m, oneC (some d) out m = oneC (some x) out m := by
    intro m
    have h1 := h.it m.ix m.sub
    have h2 := h.n m.ix
    cases hd : d.D m.ix m.sub with
    | none =>
      rw [hd] at h1
      cases hx : x.D m.ix m.sub with
      | none => simp only [oneC, findC, DD.at, hd, hx, h2]
      | some y => rw [hx] at h1; simp at h1
    | some z =>
      rw [hd] at h1
      cases hx : x.D m.ix m.sub with
      | none => rw [hx] at h1; simp at h1
      | some y =>
        rw [hx] at h1
        simp only [Option.map_some, Option.some.injEq] at h1
        simp only [oneC, findC, DD.at, hd, hx, h1]
  have hl : ∀ (l : List Mp) (k : Int), checkL (some d) out l k = checkL (some x) out l k := by
    intro l
    induction l with
    | nil => intro k; rfl
    | cons m r ih =>
      intro k
      unfold checkL
      rw [ho m, ih]
  unfold checkC
  rw [hl]
theorem SameE.wrt {d x : DD} (h : SameE d x) (hx : Good x) (i s : Int) (b : List Int) : SameE d (wrtC x i s b) := by
  unfold wrtC
  split
  · rename_i h0
    obtain ⟨y, hy, _⟩ := mayW_0 h0
    obtain ⟨_, e1, e2, _⟩ := hx.it i s y hy
    rw [hy, Option.getD_some]
    refine ⟨fun i' s' => ?_, h.n⟩
    unfold DD.put
    simp only
    split
    · rename_i e
      obtain ⟨rfl, rfl⟩ := e
      rw [h.it, e1, e2, hy]
      rfl
    · exact h.it i' s'
  · exact h
/-- A value out of its bits. -/
theorem pk_back {t bits : Int} {v : List Int} (hf : fitsC t bits) (hp : plainC t v = 0) (hb : Byt v) : pkL (bitsL v 0 bits.toNat) ((bits.toNat + 7) / 8) = v := by
  have hl := fits_len hf hp
  obtain ⟨h1, h2⟩ := hf
  have hk := siz_pos.1 h1
  have h3 := (plainC_0 hp).2.2.1 hk.2
  rcases h2 with h2 | ⟨rfl, rfl⟩
  · have e1 : bits.toNat = 8 * v.length := by omega
    have e2 : (bits.toNat + 7) / 8 = v.length := by omega
    rw [e2, e1]
    exact pkL_bits hb
  · have h4 := (plainC_0 hp).2.2.2.1 rfl
    have h5 : siz 1 = 1 := rfl
    match v, hl with
    | [y], _ =>
      have := hb y (by simp)
      simp only [List.getElem?_cons_zero, Option.getD_some] at h4
      exact pkL_one (by omega) h4
/-- The bytes that are taken out of what was packed are the value. -/
theorem out_back {d : DD} (hd : Good d) {l : List Mp} (h : checkC (some d) l true = 0) {k : Nat} {m : Mp} (hk : l[k]? = some m) : outV (packC (some d) l) (sumC (l.take k)).toNat m.bits.toNat = valC (some d) m := by
  have hm := List.mem_of_getElem? hk
  obtain ⟨x, _, he, hl, hb, hf, hp⟩ := out_val hd ((check_0 h).1 m hm)
  have hpos : ∀ m ∈ l, 0 ≤ m.bits := fun y hy => by have := one_bits ((check_0 h).1 y hy); omega
  have hs := size_sum h
  have hst := stC_len (some d) (l.take k) (fun y hy => hpos y (List.mem_of_mem_take hy))
  have hsl := (sumC_le hpos (k + 1)).2
  have hst1 := sumC_take l k m hk
  have h0 := hpos m hm
  have e : bitsL (packC (some d) l) (sumC (l.take k)).toNat m.bits.toNat = bitsL (valC (some d) m) 0 m.bits.toNat := by
    unfold bitsL
    apply List.map_congr_left
    intro j hj
    have hj := List.mem_range.1 hj
    rw [pack_bit (some d) l (by omega), Nat.zero_add]
    have e2 : (sumC (l.take k)).toNat = (stC (some d) (l.take k)).length := by omega
    rw [e2]
    exact st_get (some d) l k m hk j hj
  unfold outV
  rw [e]
  have hv : valC (some d) m = x.val := by unfold valC; rw [he]
  rw [hv]
  exact pk_back hf hp hb
def vlOf (d : DD) (m : Mp) : Vl := ((m.ix, m.sub), valC (some d) m)
/-- What is unpacked of what was packed. -/
theorem unp_back {d x : DD} (hd : Good d) (hs : SameE d x) {l : List Mp} (h1 : checkC (some d) l true = 0) : ∀ (n k : Nat) (acc : List Vl), l.length - k = n → k ≤ l.length →
    ((∀ m ∈ l.drop k, (mayW (some d) m.ix m.sub (valC (some d) m)).2 = 0) ∧ unpA (some x) (packC (some d) l) (l.drop k) (sumC (l.take k)).toNat acc = (acc ++ (l.drop k).map (vlOf d), 0)) ∨
    ((∃ m ∈ l.drop k, (mayW (some d) m.ix m.sub (valC (some d) m)).2 ≠ 0) ∧ ∃ c, c ≠ 0 ∧ unpA (some x) (packC (some d) l) (l.drop k) (sumC (l.take k)).toNat acc = ([], c))
  | 0, k, acc, hn, hk => by
    left
    rw [List.drop_of_length_le (by omega)]
    exact ⟨by simp, by simp [unpA]⟩
  | n + 1, k, acc, hn, hk => by
    have hkl : k < l.length := by omega
    have hget : l[k]? = some l[k] := List.getElem?_eq_getElem hkl
    have hpos : ∀ m ∈ l, 0 ≤ m.bits := fun y hy => by have := one_bits ((check_0 h1).1 y hy); omega
    have hmem := List.getElem_mem hkl
    have hng : ¬ gapC l[k] := by
      rcases one_0 ((check_0 h1).1 _ hmem) with ⟨_, e⟩ | ⟨e, _⟩
      · cases e
      · exact e
    have hst := sumC_take l k l[k] hget
    have h0 := hpos _ hmem
    have h2 := (sumC_le hpos k).1
    have hat : (sumC (l.take k)).toNat + l[k].bits.toNat = (sumC (l.take (k + 1))).toNat := by omega
    have ih := unp_back hd hs h1 n (k + 1) (acc ++ [vlOf d l[k]]) (by omega) (by omega)
    rw [List.drop_eq_getElem_cons hkl]
    unfold unpA
    rw [if_neg hng, out_back hd h1 hget, ← hs.may, hat]
    by_cases hm : (mayW (some d) l[k].ix l[k].sub (valC (some d) l[k])).2 = 0
    · rw [if_neg (by simp [hm])]
      rcases ih with ⟨i1, i2⟩ | ⟨i1, i2⟩
      · refine .inl ⟨fun m hm' => ?_, ?_⟩
        · rcases List.mem_cons.1 hm' with rfl | hm'
          · exact hm
          · exact i1 m hm'
        · have : unpA (some x) (packC (some d) l) (l.drop (k + 1)) (sumC (l.take (k + 1))).toNat (acc ++ [((l[k].ix, l[k].sub), valC (some d) l[k])]) = _ := i2
          rw [this, List.append_assoc]
          rfl
      · obtain ⟨m, hm1, hm2⟩ := i1
        exact .inr ⟨⟨m, List.mem_cons_of_mem _ hm1, hm2⟩, i2⟩
    · rw [if_pos hm]
      exact .inr ⟨⟨l[k], List.mem_cons_self, hm⟩, _, hm, rfl⟩
/-- Unpacking what was packed. -/
theorem unpack_back {d x : DD} (hd : Good d) (hs : SameE d x) {l : List Mp} (h1 : checkC (some d) l true = 0) (h2 : checkC (some d) l false = 0) :
    ((∀ m ∈ l, (mayW (some d) m.ix m.sub (valC (some d) m)).2 = 0) ∧ unpackC (some x) l (packC (some d) l) = (l.map (vlOf d), 0)) ∨
    ((∃ m ∈ l, (mayW (some d) m.ix m.sub (valC (some d) m)).2 ≠ 0) ∧ ∃ c, c ≠ 0 ∧ unpackC (some x) l (packC (some d) l) = ([], c)) := by
  have h := unp_back hd hs h1 l.length 0 [] rfl (Nat.zero_le _)
  have e : unpackC (some x) l (packC (some d) l) = unpA (some x) (packC (some d) l) l 0 [] := by
    unfold unpackC
    rw [← hs.check, h2]
    simp only [ne_eq, not_true_eq_false, if_false]
    rw [if_neg]
    unfold packC
    rw [pkL_length]
    omega
  rw [e]
  simpa [sumC] using h
/-- What the values of l are behind writing them. -/
theorem writes_back {d : DD} : ∀ (r : List Mp) (x : DD), SameE d x → Good x → (∀ m ∈ r, (mayW (some d) m.ix m.sub (valC (some d) m)).2 = 0 ∧ m.Wf ∧ Byt (valC (some d) m)) →
    ∀ i s, ((∃ m ∈ r, m.ix = i ∧ m.sub = s) ∨ valC (some x) ⟨i, s, 0⟩ = valC (some d) ⟨i, s, 0⟩) → valC (some (writesC x (r.map (vlOf d)))) ⟨i, s, 0⟩ = valC (some d) ⟨i, s, 0⟩
  | [], x, _, _, _, i, s, h => by
    rcases h with ⟨m, hm, _⟩ | h
    · cases hm
    · exact h
  | m :: r, x, hs, hg, hl, i, s, h => by
    obtain ⟨h0, hw, hb⟩ := hl m (by simp)
    have hs' := hs.wrt hg m.ix m.sub (valC (some d) m)
    have hg' := hg.wrt m.ix m.sub (valC (some d) m) hb (fun y _ hy => chk_plain hy)
    have ih := writes_back r (wrtC x m.ix m.sub (valC (some d) m)) hs' hg' (fun y hy => hl y (by simp [hy])) i s
    have hput : ∀ i' s', valC (some (wrtC x m.ix m.sub (valC (some d) m))) ⟨i', s', 0⟩ = if i' = m.ix ∧ s' = m.sub then valC (some d) m else valC (some x) ⟨i', s', 0⟩ := by
      intro i' s'
      have h0' := h0
      rw [hs.may] at h0'
      obtain ⟨y, hy, _⟩ := mayW_0 h0'
      obtain ⟨_, e1, e2, _⟩ := hg.it _ _ y hy
      unfold wrtC
      rw [if_pos h0', hy, Option.getD_some]
      unfold valC findC DD.at DD.put
      simp only [e1, e2]
      by_cases e : i' = m.ix ∧ s' = m.sub
      · simp [e]
      · simp [e]
    refine ih ?_
    rcases h with ⟨m', hm', e1, e2⟩ | h
    · rcases List.mem_cons.1 hm' with rfl | hm'
      · right
        rw [hput, if_pos ⟨e1.symm, e2.symm⟩]
        subst e1 e2
        rfl
      · exact .inl ⟨m', hm', e1, e2⟩
    · right
      rw [hput]
      split
      · rename_i e
        obtain ⟨rfl, rfl⟩ := e
        rfl
      · exact h
end Go.Proofs.YtokebpeplopjhaaDoor.Mp
namespace Go.Proofs.YtokebpeplopjhaaDoor.Mp
open Go.RowKit Go.Shelf Go.Proofs.YtokebpeplopjhaaDoor.Rng Go.Proofs.YtokebpeplopjhaaDoorW.PrintWords Go.Proofs.YtokebpeplopjhaaDoorW.PrintMore
open Go.ChangeShapes Go.WideShapes Go.Deep

theorem cells_vl : Tryd.prog.cellsOf 36 = 3 := by kernel_rfl
/-- A row of values for places. -/
def VsAt (w : World) (A : Option Addr) (l : List Vl) : Prop := ∀ (j : Nat) x, l[j]? = some x → ∃ ad A1 a1, A = some ad ∧ w.cell? (ad.add (j * 3)) = some (.int .u16 x.1.1) ∧ w.cell? ⟨(ad.add (j * 3)).block, (ad.add (j * 3)).off + 1, none⟩ = some (.int .u8 x.1.2) ∧ w.cell? ⟨(ad.add (j * 3)).block, (ad.add (j * 3)).off + 2, none⟩ = some (.slice A1 x.2.length a1) ∧ ArgV w (.slice A1 x.2.length a1) x.2
theorem VsAt.below {w w' : World} {A : Option Addr} {l : List Vl} (h : VsAt w A l) (hb : Below w.heap.size w w') : VsAt w' A l := by
  intro j x hj
  obtain ⟨ad, A1, a1, hA, h1, h2, h3, h4⟩ := h j x hj
  exact ⟨ad, A1, a1, hA, pw_cell_below hb h1, pw_cell_below hb h2, pw_cell_below hb h3, h4.below hb⟩
theorem DictAt.fr {M : Nat → Prop} {B : Nat} {w w' : World} {g : Nat} {d : DD} {bi bs n m : Nat} {fi fs : Value → Option Value} (h : DictAt B w g d bi bs n m fi fs) (hf : Fr M w w') (hM : NoByte w M) (h1 : ¬ M g) (h2 : ¬ M bi) (h3 : ¬ M bs) : DictAt B w' g d bi bs n m fi fs :=
  ⟨(hf.block g (blk_lt h.blk) h1).trans h.blk, h.base, h.items.block (hf.block bi h.items.lt h2), h.subs.block (hf.block bs h.subs.lt h3), h.no, fun i s x hi hs hx => by
    obtain ⟨v, e1, e2⟩ := h.yes i s x hi hs hx
    exact ⟨v, e1, e2.fr hf hM⟩, h.count⟩
theorem DictB.noByte {B : Nat} {w : World} {g bi bs : Nat} {d : DD} (h : DictB B w g bi bs d) : NoByte w (fun k => k = g ∨ k = bi) := by
  obtain ⟨n, m, fi, fs, h⟩ := h
  exact h.noByte
theorem DictB.lt {B : Nat} {w : World} {g bi bs : Nat} {d : DD} (h : DictB B w g bi bs d) : g < w.heap.size ∧ bi < w.heap.size ∧ bs < w.heap.size := by
  obtain ⟨n, m, fi, fs, h⟩ := h
  exact ⟨blk_lt h.blk, h.items.lt, h.subs.lt⟩
theorem DictB.ge {B : Nat} {w : World} {g bi bs : Nat} {d : DD} (h : DictB B w g bi bs d) : B ≤ g ∧ B ≤ bi ∧ B ≤ bs := by
  obtain ⟨n, m, fi, fs, h⟩ := h
  exact ⟨h.base.1, h.base.2.1, h.base.2.2.1⟩
theorem DictB.fr {M : Nat → Prop} {B : Nat} {w w' : World} {g bi bs : Nat} {d : DD} (h : DictB B w g bi bs d) (hf : Fr M w w') (hM : NoByte w M) (h1 : ¬ M g) (h2 : ¬ M bi) (h3 : ¬ M bs) : DictB B w' g bi bs d := by
  obtain ⟨n, m, fi, fs, h⟩ := h
  exact ⟨n, m, fi, fs, h.fr hf hM h1 h2 h3⟩
section
variable {H : Type} {enc : TypeId × Value → H} {W : World} {held : Bool}
set_option maxRecDepth 100000 in
/-- One value. -/
theorem open_vl {fuel : Nat} {cs : List Value} {d : DataW H} {p : List MemPlace} (h : DataW.trod enc Tryd.prog W 0 (fun _ => true) held fuel 36 cs = some (d, p)) (hwt : ∀ n ∈ d.weights Tryd.prog 36, n ≤ reachBytes) :
    ∃ (x : Vl) (v : Value), cs = [.int .u16 x.1.1, .int .u8 x.1.2, v] ∧ ArgV W v x.2 ∧ (0 ≤ x.1.1 ∧ x.1.1 < 65536) ∧ (0 ≤ x.1.2 ∧ x.1.2 < 256) := by
  obtain ⟨xs, n, rfl, hx, hcl, hxl, hf⟩ := DataW.trod_struct Tryd.underlying36 h
  rw [cells_vl] at hcl
  match xs, hxl, cs, hcl with
  | [y0, y1], _, [c0, c1, c2], _ =>
    have g0 := hf 0 _ rfl
    have g1 := hf 1 _ rfl
    simp [cells_place, cells_bs] at g0 g1
    obtain ⟨i, s, e, hi, hs⟩ := open_place g0
    simp only [List.cons.injEq, and_true] at e
    obtain ⟨rfl, rfl⟩ := e
    obtain ⟨hd, _⟩ := Prod.mk.inj hx
    subst hd
    obtain ⟨d1, p1⟩ := y1
    obtain ⟨zs, hz⟩ := open_bs g1 (fun n hn => hwt n (by
      simp only [DataW.weights, Tryd.underlying36]
      exact DataW.weights_mem_each (ts := [33, 34]) (j := 1) rfl rfl n hn))
    exact ⟨((i, s), zs), c2, rfl, hz, hi, hs⟩
/-- A row of values. -/
theorem open_vs {v : Value} {d : DataW H} {p : List MemPlace} (h : DataW.Trod enc Tryd.prog W 0 (fun _ => true) held 24 v d p) (hv : v.cells.toList = [v]) (hwt : ∀ n ∈ d.weights Tryd.prog 24, n ≤ reachBytes) :
    ∃ (l : List Vl) (A : Option Addr) (c : Nat), v = .slice A l.length c ∧ VsAt W A l ∧ (∀ x ∈ l, (0 ≤ x.1.1 ∧ x.1.1 < 65536) ∧ (0 ≤ x.1.2 ∧ x.1.2 < 256) ∧ Byt x.2) ∧ l.length ≤ 140737488355328 := by
  obtain ⟨fuel, hf⟩ := h
  rw [hv] at hf
  have h3 : reachBytes = 140737488351232 := rfl
  rcases open_slice Tryd.underlying24 hf with ⟨hcs, hx⟩ | ⟨a, len, cap, m, n, D, Pl, hcs, _, hl, hm, hmm, hx, hel⟩
  · injection hcs with hcs
    subst hcs
    exact ⟨[], none, 0, rfl, (fun j e hj => by simp at hj), (by intro x hx; cases hx), Nat.zero_le _⟩
  · injection hcs with hcs
    subst hcs
    rw [if_pos rfl] at hmm
    subst hmm
    rw [cells_vl] at hel hx
    obtain ⟨hd, -⟩ := Prod.mk.inj hx
    subst hd
    have hwl : len ≤ reachBytes := by
      have h1 := hwt _ (by
        simp only [DataW.weights, Tryd.underlying24]
        exact List.mem_cons.2 (.inl rfl))
      rw [bytes_vl] at h1
      simp only [List.length_map, List.length_range] at h1
      omega
    have each : ∀ i, i < len → ∃ q : Vl × Value, W.cells? 0 (a.add (i * 3)) 3 = some [.int .u16 q.1.1.1, .int .u8 q.1.1.2, q.2] ∧ ArgV W q.2 q.1.2 ∧ (0 ≤ q.1.1.1 ∧ q.1.1.1 < 65536) ∧ (0 ≤ q.1.1.2 ∧ q.1.1.2 < 256) := by
      intro i hi
      obtain ⟨cs', h1, h2⟩ := hel i (by omega)
      obtain ⟨x, v, rfl, r1, r2, r3⟩ := open_vl h2 (fun n hn => hwt n (by
        simp only [DataW.weights, Tryd.underlying24]
        refine List.mem_cons.2 (.inr (List.mem_append.2 (.inl ?_)))
        exact mem_weightsAll (List.mem_map.2 ⟨i, List.mem_range.2 hi, rfl⟩) hn))
      exact ⟨(x, v), h1, r1, r2, r3⟩
    haveI : Inhabited (Vl × Value) := ⟨(((0, 0), []), .int .u8 0)⟩
    obtain ⟨q, hq⟩ := choose_lt each
    have hlen : ((List.range len).map fun i => (q i).1).length = len := by simp
    refine ⟨(List.range len).map fun i => (q i).1, some a, m, by rw [hlen], fun j e hj => ?_, fun x hx => ?_, by omega⟩
    · have hjl : j < len := by have := (List.getElem?_eq_some_iff.1 hj).1; omega
      obtain ⟨h1, h2, _, _⟩ := hq j hjl
      have hxe : e = (q j).1 := by
        rw [List.getElem?_map, List.getElem?_range hjl] at hj
        exact (Option.some.inj hj).symm
      subst hxe
      obtain ⟨_, _, hcell⟩ := World.cells?_some h1
      have f : ∀ (i : Nat) u, 0 < i → i < 3 → [Value.int .u16 (q j).1.1.1, .int .u8 (q j).1.1.2, (q j).2][i]? = some u → W.cell? ⟨(a.add (j * 3)).block, (a.add (j * 3)).off + i, none⟩ = some u := fun i u h0 hi hu => by
        have h5 := hcell i (by simpa using hi)
        rw [← add_field _ _ i h0, ← Go.Deep.add_add]
        first | exact h5.trans hu | (rw [h5]; exact hu)
      obtain ⟨A1, a1, e1, h4⟩ := h2
      refine ⟨a, A1, a1, rfl, ?_, f 1 _ (by omega) (by omega) rfl, f 2 _ (by omega) (by omega) (by rw [e1]; rfl), ⟨A1, a1, rfl, h4⟩⟩
      have h5 := hcell 0 (by simp)
      rw [Go.Deep.add_add, Nat.add_zero] at h5
      simpa using h5
    · obtain ⟨i, hi, rfl⟩ := List.mem_map.1 hx
      obtain ⟨_, h2, h3, h4⟩ := hq i (List.mem_range.1 hi)
      exact ⟨h3, h4, h2.byt⟩
end
end Go.Proofs.YtokebpeplopjhaaDoor.Mp
namespace Go.Proofs.YtokebpeplopjhaaDoor.Mp
open Go.RowKit Go.Shelf Go.Proofs.YtokebpeplopjhaaDoor.Rng Go.Proofs.YtokebpeplopjhaaDoorW.PrintWords Go.Proofs.YtokebpeplopjhaaDoorW.PrintMore Go.Proofs.YtokebpeplopjhaaDoorW.PrintLast

theorem str_rd {w : World} {A : Option Addr} {zs : List Int} {n : Nat} (h : Rd w A zs) (hn : zs.length = n) (c : Nat) (X : World) (hb : Below w.heap.size w X) : (convert 34 9 (.slice A n c)).run Tryd.prog X = .ok (.string (strOfNums zs)) X := by
  subst hn
  exact str_at (Rd_C h) X hb
theorem SameE.find {d x : DD} (h : SameE d x) (i s : Int) : (findC (some x) i s).2 = (findC (some d) i s).2 := by
  have h1 := h.it i s
  have h2 := h.n i
  cases hd : d.D i s with
  | none =>
    rw [hd] at h1
    cases hx : x.D i s with
    | none => simp only [findC, DD.at, hd, hx, h2]
    | some y => rw [hx] at h1; simp at h1
  | some z =>
    rw [hd] at h1
    cases hx : x.D i s with
    | none => rw [hx] at h1; simp at h1
    | some y => simp only [findC, DD.at, hd, hx]
theorem SameE.writes {d : DD} : ∀ (vs : List Vl) (x : DD), SameE d x → Good x → (∀ y ∈ vs, VlOk y) → SameE d (writesC x vs)
  | [], _, h, _, _ => h
  | y :: r, x, h, hg, hv => by
    have h1 := hv y (by simp)
    exact SameE.writes r (wrtC x y.1.1 y.1.2 y.2) (h.wrt hg _ _ _) (hg.wrt _ _ _ h1.2.2.1 (fun z _ hz => chk_plain hz)) (fun z hz => hv z (by simp [hz]))
set_option maxRecDepth 100000 in
set_option maxHeartbeats 8000000 in
theorem back_all (l : List En) (A : Option Addr) (c : Nat) (ms : List Mp) (A2 : Option Addr) (c2 : Nat) (vs : List Vl) (Av : Option Addr) (cv : Nat) (w : World) (hE : EsAt w A l) (hwg : ∀ e ∈ l, e.Wg ∧ Byt e.df) (hl : l.length ≤ 140737488355328) (hM : MsAt w A2 ms) (hmw : ∀ m ∈ ms, m.Wf) (hml : ms.length ≤ 140737488355328) (hV : VsAt w Av vs) (hvw : ∀ x ∈ vs, (0 ≤ x.1.1 ∧ x.1.1 < 65536) ∧ (0 ≤ x.1.2 ∧ x.1.2 < 256) ∧ Byt x.2) (hvl : vs.length ≤ 140737488355328) (ht : Tbl w) :
    Calls Tryd.prog 3 #[.slice A l.length c, .slice A2 ms.length c2, .slice Av vs.length cv] w fun e w' => e = .returned (.bool true) ∧ Below w.heap.size w w' := by
  have HSZ := Aside0.mk (size_es l A c w hE hl (fun e he => (hwg e he).1.name))
  have HT := Aside0.mk ht
  have HE := Aside0.mk hE
  have HM := Aside0.mk hM
  have HMW := Aside0.mk hmw
  have HV := Aside0.mk hV
  have HVW := Aside0.mk hvw
  have HSM := Aside0.mk fun h => small_wf (l := l) h hwg
  obtain ⟨s, hs⟩ : ∃ s, szL l 0 = s := ⟨_, rfl⟩
  rw [hs] at HSZ HSM
  obtain ⟨n, hn⟩ : ∃ n, ms.length = n := ⟨_, rfl⟩
  have HN := Aside0.mk hn
  rw [hn] at hml ⊢
  obtain ⟨nl, hnl⟩ : ∃ nl, l.length = nl := ⟨_, rfl⟩
  have HNL := Aside0.mk hnl
  rw [hnl] at HSZ ⊢
  obtain ⟨nv, hnv⟩ : ∃ nv, vs.length = nv := ⟨_, rfl⟩
  have HNV := Aside0.mk hnv
  rw [hnv] at hvl ⊢
  clear hE hM hmw ht hs hn hnl hwg hl hV hvw hnv
  by_cases h1 : 5000 < s
  · go_enter Tryd.func3, Tryd.ntmps3
    go_wp2_with (first
      | (go_at_call 17; refine HSZ.out.mono ?_; rintro e w1 ⟨rfl, hb1⟩; have HB1 := Aside0.mk hb1; clear hb1)
      | (go_at_call 18; refine (works_any _ (HT.out.below HB1.out)).mono ?_; rintro e w4 ⟨rfl, hb4⟩; have HB4 := Aside0.mk (HB1.out.trans (hb4.mono HB1.out.size)); clear hb4))
    go_ret
    exact ⟨rfl, HB4.out⟩
  by_cases h2 : 100 < n
  · go_enter Tryd.func3, Tryd.ntmps3
    go_wp2_with (first
      | (go_at_call 17; refine HSZ.out.mono ?_; rintro e w1 ⟨rfl, hb1⟩; have HB1 := Aside0.mk hb1; clear hb1)
      | (go_at_call 18; refine (works_any _ (HT.out.below HB1.out)).mono ?_; rintro e w4 ⟨rfl, hb4⟩; have HB4 := Aside0.mk (HB1.out.trans (hb4.mono HB1.out.size)); clear hb4))
    go_ret
    exact ⟨rfl, HB4.out⟩
  by_cases h3 : 20 < nv
  · go_enter Tryd.func3, Tryd.ntmps3
    go_wp2_with (first
      | (go_at_call 17; refine HSZ.out.mono ?_; rintro e w1 ⟨rfl, hb1⟩; have HB1 := Aside0.mk hb1; clear hb1)
      | (go_at_call 18; refine (works_any _ (HT.out.below HB1.out)).mono ?_; rintro e w4 ⟨rfl, hb4⟩; have HB4 := Aside0.mk (HB1.out.trans (hb4.mono HB1.out.size)); clear hb4))
    go_ret
    exact ⟨rfl, HB4.out⟩
  have hwf := HSM.out (by omega)
  have HWF := Aside0.mk hwf
  rcases newR_form hwf with ⟨r, hr, hr0⟩ | ⟨d, hr, hd⟩
  · have HR := Aside0.mk fun (W : World) (h2 : Below w.heap.size w W) => (show Calls Tryd.prog 19 #[.slice A nl c] W (NewSaid w.heap.size W (r, none)) by
      have h := new_all w.heap.size l A c W (HE.out.below h2) (fun e he => (HWF.out e he).1) (HT.out.below h2) h2.size _ hr
      rw [HNL.out] at h
      exact h)
    have q1 : (r == 0) = false := by simpa using hr0
    have q2 : (r != 0) = true := by simpa using hr0
    have HG2 := Aside0.mk True.intro
    clear hr hwf
    go_enter Tryd.func3, Tryd.ntmps3
    go_wp2_with (first
      | (go_at_call 17; refine HSZ.out.mono ?_; rintro e w1 ⟨rfl, hb1⟩; have HB1 := Aside0.mk hb1; clear hb1)
      | (have hgate := HG2.out; clear hgate; go_at_call 19; refine (HR.out w1 HB1.out).mono ?_; rintro e w2 ⟨hb2, rfl⟩; have HB2 := Aside0.mk (HB1.out.trans (hb2.mono HB1.out.size)); clear hb2 HG2)
      | (go_at_call 19; refine (HR.out w2 HB2.out).mono ?_; rintro e w3 ⟨hb3, rfl⟩; have HB3 := Aside0.mk (HB2.out.trans (hb3.mono HB2.out.size)); clear hb3)
      | (go_at_call 18; refine (works_any _ (HT.out.below HB3.out)).mono ?_; rintro e w4 ⟨rfl, hb4⟩; have HB4 := Aside0.mk (HB3.out.trans (hb4.mono HB3.out.size)); clear hb4))
    go_ret
    exact ⟨rfl, HB4.out⟩
  have HR := Aside0.mk fun (W : World) (h2 : Below w.heap.size w W) => (show Calls Tryd.prog 19 #[.slice A nl c] W (fun e W' => ∃ g bi bs, e = .returned (.tuple #[.pointer (some ⟨g, 0, none⟩), .int .i64 0]) ∧ W.heap.size ≤ g ∧ W.heap.size ≤ bi ∧ W.heap.size ≤ bs ∧ DictB w.heap.size W' g bi bs d ∧ Below W.heap.size W W') by
    have h := new_all w.heap.size l A c W (HE.out.below h2) (fun e he => (HWF.out e he).1) (HT.out.below h2) h2.size _ hr
    rw [HNL.out] at h
    refine h.mono ?_
    rintro e W' ⟨hb, g, bi, bs, he, hg, hbi, hbs, hD⟩
    exact ⟨g, bi, bs, he, hg, hbi, hbs, hD, hb⟩)
  have HG := Aside0.mk hd
  have HG2 := Aside0.mk True.intro
  clear hr hd hwf
  go_enter Tryd.func3, Tryd.ntmps3
  go_wp2_with (first
    | (go_at_call 17; refine HSZ.out.mono ?_; rintro e w1 ⟨rfl, hb1⟩; have HB1 := Aside0.mk hb1; clear hb1)
    | (have hgate := HG2.out; clear hgate; go_at_call 19; refine (HR.out w1 HB1.out).mono ?_; rintro e w2 ⟨gd, bi, bs, rfl, hg, hbi, hbs, hD, hb2⟩; have HB2 := Aside0.mk (HB1.out.trans (hb2.mono HB1.out.size)); have HD2 := Aside0.mk hD; clear hb2 hD hg hbi hbs HG2)
    | (go_at_call 19; refine (HR.out w2 HB2.out).mono ?_; rintro e w3 ⟨gx, bix, bsx, rfl, hg, hbi, hbs, hX, hb3⟩; have HB3 := Aside0.mk (HB2.out.trans (hb3.mono HB2.out.size)); have HX3 := Aside0.mk hX; have HD3 := Aside0.mk (HD2.out.below hb3); have HFAR := Aside0.mk (show ∀ k, k < w2.heap.size → ¬ (k = gx ∨ k = bix) from fun k hk e => by rcases e with e | e <;> omega); clear hb3 hX hg hbi hbs))
  have HDN := Aside0.mk HD2.out.lt
  have HXN := Aside0.mk HX3.out.noByte
  have HXL := Aside0.mk HX3.out.lt
  have HGT := Aside0.mk (show ∀ k, k < w.heap.size → k < w3.heap.size ∧ ¬ (k = gx ∨ k = bix) from fun k hk => ⟨Nat.lt_of_lt_of_le hk HB3.out.size, HFAR.out k (Nat.lt_of_lt_of_le hk HB2.out.size)⟩)
  have HDF := Aside0.mk fun (W : World) (hf : Fr (fun k => k = gx ∨ k = bix) w3 W) => HD3.out.fr hf HXN.out (HFAR.out _ HDN.out.1) (HFAR.out _ HDN.out.2.1) (HFAR.out _ HDN.out.2.2)
  go_loopw [11] (fun iv wr => ∃ (k : Nat) (x : DD), k ≤ nv ∧ iv = .int .i64 k ∧ Aside0 (DictB w.heap.size wr gx bix bsx x) ∧ Aside0 (Good x) ∧ Aside0 (SameE d x) ∧ Aside0 (Fr (fun k => k = gx ∨ k = bix) w3 wr)) (fun iv _ => nv - (intOf iv).toNat)
  case atStart => exact ⟨0, d, Nat.zero_le _, rfl, HX3, HG, ⟨SameE.refl d⟩, ⟨Fr.refl _ _⟩⟩
  case round =>
    obtain ⟨k, x, hk, rfl, HX, HGX, HSE, HF⟩ := hrel
    have HB := Aside0.mk (HB3.out.trans (HF.out.below HGT.out))
    by_cases hlt : k < nv
    · obtain ⟨y, hy⟩ : ∃ y, vs[k]? = some y := ⟨_, List.getElem?_eq_getElem (by rw [HNV.out]; exact hlt)⟩
      obtain ⟨ad, A1, a1, rfl, y0, y1, y2, y3⟩ := HV.out k y hy
      have hadl := World.block_lt_of_cell? w _ y0
      have y0 := pw_cell_below HB.out y0
      have y1 := pw_cell_below HB.out y1
      have y2 := pw_cell_below HB.out y2
      have y3 := y3.below HB.out
      obtain ⟨hi, hs, hby⟩ := HVW.out y (List.mem_of_getElem? hy)
      obtain ⟨⟨ix, sub⟩, zs⟩ := y
      simp only at y0 y1 y2 y3 hi hs hby
      obtain ⟨nz, hnz⟩ : ∃ nz, zs.length = nz := ⟨_, rfl⟩
      have HNZ := Aside0.mk hnz
      have HY3 := Aside0.mk y3
      have hnzb : nz ≤ 140737488355328 := by obtain ⟨_, _, _, _, h⟩ := y3; omega
      rw [hnz] at y2
      clear y3 hy hnz
      by_cases h5 : nz ≤ 5000
      · have HWR := Aside0.mk fun (W : World) (hW : Below wr.heap.size wr W) => (show Calls Tryd.prog 20 #[.pointer (some ⟨gx, 0, none⟩), pl ix sub, .slice A1 nz a1] W (WrtSaid w.heap.size W gx bix bsx (mayW (some x) ix sub zs).2 (wrtC x ix sub zs)) by
          have h := write_any w.heap.size gx bix bsx x HGX.out ix sub hi hs A1 a1 zs W (HX.out.below hW) ((HT.out.below HB.out).below hW) (HY3.out.below hW)
          rw [HNZ.out] at h
          exact h)
        have HGW := Aside0.mk (HGX.out.wrt ix sub zs hby (fun y _ hy => chk_plain hy))
        have HSW := Aside0.mk (HSE.out.wrt HGX.out ix sub zs)
        have hadn := (HGT.out _ hadl).2
        have u0 : ∀ X, Fr (fun k => k = gx ∨ k = bix) wr X → X.cell? (ad.add (k * 3)) = some (.int .u16 ix) := fun X hX => hX.cell y0 hadn
        have u1 : ∀ X, Fr (fun k => k = gx ∨ k = bix) wr X → X.cell? ⟨(ad.add (k * 3)).block, (ad.add (k * 3)).off + 1, none⟩ = some (.int .u8 sub) := fun X hX => hX.cell y1 hadn
        have u2 : ∀ X, Fr (fun k => k = gx ∨ k = bix) wr X → X.cell? ⟨(ad.add (k * 3)).block, (ad.add (k * 3)).off + 2, none⟩ = some (.slice A1 nz a1) := fun X hX => hX.cell y2 hadn
        have hS0 : Fr (fun k => k = gx ∨ k = bix) wr wr.drew := Fr.drew _ _
        have hi1 : (k : Int) < (nv : Int) := by omega
        have hi3 : (0 : Int) ≤ (k : Int) := by omega
        clear hadl hadn
        go_wp2
        clear y0 y1 y2
        go_region_held3 (fun X => Fr (fun k => k = gx ∨ k = bix) wr X) (first | assumption | exact hS0)
          ((go_at_call 20; refine (HWR.out _ (Below.refl _ _).drew).mono ?_; rintro e w5 ⟨rfl, hd5, hf5⟩; have HD5 := Aside0.mk hd5; have hS5 : Fr (fun k => k = gx ∨ k = bix) wr w5 := (Fr.drew _ _).trans hf5; have HF5 := Aside0.mk (HF.out.trans hS5); clear hd5 hf5))
        go_wp2
        go_roundw
        case rel => exact ⟨k + 1, _, by omega, by go_num, HD5, HGW, HSW, HF5⟩
        case measure => simp [intOf]; omega
      · go_wp2
        go_roundw
        case rel => exact ⟨k + 1, x, by omega, by go_num, HX, HGX, HSE, HF⟩
        case measure => simp [intOf]; omega
    · obtain rfl : k = nv := by omega
      obtain ⟨wa, rfl⟩ : ∃ wa, wa = wr := ⟨_, rfl⟩
      have HDA := Aside0.mk (HDF.out wa HF.out)
      have HCK := Aside0.mk fun (o : Bool) (W : World) (hW : Below wa.heap.size wa W) => (show Calls Tryd.prog 21 #[.pointer (some ⟨gd, 0, none⟩), .slice A2 n c2, .bool o] W (ChkOne W (checkC (some d) ms o)) by
        have h := mcheck_any w.heap.size (.pointer (some ⟨gd, 0, none⟩)) (some d) ms A2 c2 o W ⟨gd, rfl, (HDA.out.below hW).dict⟩ ((HT.out.below HB.out).below hW) ((HM.out.below HB.out).below hW) (by have := HN.out; omega) HMW.out HG.out.find
        rw [HN.out] at h
        exact h)
      obtain ⟨qt, hqt⟩ : ∃ q, checkC (some d) ms true = q := ⟨_, rfl⟩
      obtain ⟨qf, hqf⟩ : ∃ q, checkC (some d) ms false = q := ⟨_, rfl⟩
      have HQT := Aside0.mk hqt
      have HQF := Aside0.mk hqf
      have HGC := Aside0.mk True.intro
      clear hqt hqf
      by_cases hc1 : qt = 0
      case neg =>
        have q1 : (qt == 0) = false := by simpa using hc1
        have q2 : (qt != 0) = true := by simpa using hc1
        go_wp2_with (first
          | (have hgate := HGC.out; clear hgate; go_at_call 21; refine (HCK.out true wa (Below.refl _ _)).mono ?_; rw [HQT.out]; rintro e w4 ⟨rfl, hb4⟩; have HB4 := Aside0.mk hb4; clear hb4 HGC)
          | (go_at_call 18; refine (works_any _ (HT.out.below (HB.out.trans (HB4.out.mono HB.out.size)))).mono ?_; rintro e wz ⟨rfl, hbz⟩; have HBZ := Aside0.mk ((HB.out.trans (HB4.out.mono HB.out.size)).trans (hbz.mono (HB.out.trans (HB4.out.mono HB.out.size)).size)); clear hbz))
        go_ret
        exact ⟨rfl, HBZ.out⟩
      subst hc1
      by_cases hc2 : qf = 0
      case neg =>
        have q1 : (qf == 0) = false := by simpa using hc2
        have q2 : (qf != 0) = true := by simpa using hc2
        go_wp2_with (first
          | (have hgate := HGC.out; clear hgate; go_at_call 21; refine (HCK.out true wa (Below.refl _ _)).mono ?_; rw [HQT.out]; rintro e w4 ⟨rfl, hb4⟩; have HB4 := Aside0.mk hb4; clear hb4 HGC)
          | (go_at_call 21; refine (HCK.out false w4 HB4.out).mono ?_; rw [HQF.out]; rintro e w5 ⟨rfl, hb5⟩; have HB5 := Aside0.mk (HB4.out.trans (hb5.mono HB4.out.size)); clear hb5)
          | (go_at_call 18; refine (works_any _ (HT.out.below (HB.out.trans (HB5.out.mono HB.out.size)))).mono ?_; rintro e wz ⟨rfl, hbz⟩; have HBZ := Aside0.mk ((HB.out.trans (HB5.out.mono HB.out.size)).trans (hbz.mono (HB.out.trans (HB5.out.mono HB.out.size)).size)); clear hbz))
        go_ret
        exact ⟨rfl, HBZ.out⟩
      subst hc2
      have hval := vals_ok HG.out HQT.out
      have HVO := Aside0.mk hval
      have HBP := Aside0.mk (show ∀ m ∈ ms, 0 ≤ m.bits from fun m hm => by have := one_bits ((check_0 HQT.out).1 m hm); omega)
      obtain ⟨hz1, hz2, hz3⟩ := size_sum HQT.out
      obtain ⟨sz, hsz⟩ : ∃ sz, sizeC ms = sz := ⟨_, rfl⟩
      have HSZE := Aside0.mk hsz
      have hsz8 : sz ≤ 8 := by omega
      have HPL := Aside0.mk (show (packC (some d) ms).length = sz by unfold packC; rw [pkL_length, hsz])
      have HPK := Aside0.mk fun (W : World) (hW : Below wa.heap.size wa W) => (show Calls Tryd.prog 22 #[.pointer (some ⟨gd, 0, none⟩), .slice A2 n c2] W (fun e w' => ∃ g, e = .returned (.tuple #[.slice (some ⟨g, 0, none⟩) sz sz, .int .u32 0]) ∧ W.heap.size ≤ g ∧ Num.RowB w' g (packC (some d) ms) ∧ Below W.heap.size W w') by
        have h := Num.pack_any w.heap.size (.pointer (some ⟨gd, 0, none⟩)) (some d) ms A2 c2 W ⟨gd, rfl, (HDA.out.below hW).dict⟩ ((HT.out.below HB.out).below hW) ((HM.out.below HB.out).below hW) (by have := HN.out; omega) HMW.out HG.out.find HQT.out HVO.out
        rw [HN.out, HSZE.out] at h
        exact h)
      have HSI := Aside0.mk fun (W : World) (hW : Below wa.heap.size wa W) => (show Calls Tryd.prog 23 #[.slice A2 n c2] W (fun e w' => e = .returned (.int .i64 (sz : Nat)) ∧ Below W.heap.size W w') by
        have h := msize_any ms A2 c2 W ((HM.out.below HB.out).below hW) (by have := HN.out; omega) HBP.out (check_0 HQT.out).2.1
        rw [HN.out, HSZE.out] at h
        exact h)
      have HWT := Aside0.mk fun (W : World) (hW : Below wa.heap.size wa W) (gp : Nat) (hp : Num.RowB W gp (packC (some d) ms)) => (show Calls Tryd.prog 24 #[.pointer (some ⟨gx, 0, none⟩), .slice A2 n c2, .slice (some ⟨gp, 0, none⟩) sz sz] W (MwrSaid w.heap.size W gx bix bsx (unpackC (some x) ms (packC (some d) ms)).2 (writesC x (unpackC (some x) ms (packC (some d) ms)).1)) by
        have hTB : TblB w.heap.size W := TblB.below HT.out (HB.out.trans (hW.mono HB.out.size))
        have h := mwrite_any w.heap.size gx bix bsx x HGX.out ms A2 c2 (some ⟨gp, 0, none⟩) sz (packC (some d) ms) W (HX.out.below hW) hTB ((HM.out.below HB.out).below hW) (by have := HN.out; omega) HMW.out ⟨rowB_rd hp (by have := HPL.out; omega), pkL_byt (Num.bits_stC _ _) _, by have := HPL.out; omega, by omega⟩
        rw [HN.out, HPL.out] at h
        exact h)
      clear hval hz1 hz2 hz3 hsz
      obtain ⟨⟨vs', cw⟩, hun⟩ : ∃ r, unpackC (some x) ms (packC (some d) ms) = r := ⟨_, rfl⟩
      rw [hun] at HWT
      have hvok := (unpack_ok (o := some x) (b := packC (some d) ms) HMW.out).1
      rw [hun] at hvok
      have HSX := Aside0.mk (HSE.out.writes vs' x HGX.out hvok)
      have hbk := unpack_back HG.out HSE.out HQT.out HQF.out
      rw [hun] at hbk
      clear hun hvok
      rcases hbk with ⟨hall, hun⟩ | ⟨hex, cw', hcw, hun⟩
      · obtain ⟨rfl, rfl⟩ := Prod.mk.inj hun
        have HALL := Aside0.mk hall
        have HVX := Aside0.mk fun (m : Mp) (hm : m ∈ ms) => writes_back ms x HSE.out HGX.out (fun m hm => ⟨hall m hm, HMW.out m hm, by
          obtain ⟨y, _, he, _, hb, _⟩ := out_val HG.out ((check_0 HQT.out).1 m hm)
          unfold valC
          rw [he]
          exact hb⟩) m.ix m.sub (.inl ⟨m, hm, rfl, rfl⟩)
        clear hall hun
        obtain ⟨x', hx'⟩ : ∃ x', writesC x (ms.map (vlOf d)) = x' := ⟨_, rfl⟩
        rw [hx'] at HWT HSX HVX
        clear hx'
        go_wp2_with (first
          | (have hgate := HGC.out; clear hgate; go_at_call 21; refine (HCK.out true wa (Below.refl _ _)).mono ?_; rw [HQT.out]; rintro e w4 ⟨rfl, hb4⟩; have HB4 := Aside0.mk hb4; clear hb4 HGC)
          | (go_at_call 21; refine (HCK.out false w4 HB4.out).mono ?_; rw [HQF.out]; rintro e w5 ⟨rfl, hb5⟩; have HB5 := Aside0.mk (HB4.out.trans (hb5.mono HB4.out.size)); clear hb5)
          | (go_at_call 22; refine (HPK.out w5 HB5.out).mono ?_; rintro e w6 ⟨gp, rfl, hgp, hrow, hb6⟩; have HB6 := Aside0.mk (HB5.out.trans (hb6.mono HB5.out.size)); have HROW := Aside0.mk hrow; clear hb6 hrow hgp)
          | (go_at_call 23; refine (HSI.out w6 HB6.out).mono ?_; rintro e w7 ⟨rfl, hb7⟩; have HB7 := Aside0.mk (HB6.out.trans (hb7.mono HB6.out.size)); have HROW7 := Aside0.mk (show Num.RowB w7 gp (packC (some d) ms) from (hb7.block gp (Array.getElem?_eq_some_iff.1 HROW.out).1).trans HROW.out); clear hb7)
          | (go_at_call 24; refine (HWT.out w7 HB7.out gp HROW7.out).mono ?_; rintro e w8 ⟨rfl, hd8, hf8⟩; have HX8 := Aside0.mk hd8; have HF8 := Aside0.mk (HF.out.trans ((Fr.of_below HB7.out).trans hf8)); clear hd8 hf8))
        have HB8 := Aside0.mk (HB3.out.trans (HF8.out.below HGT.out))
        have HD8 := Aside0.mk (HDF.out w8 HF8.out)

        go_loopw [15] (fun iv wr => ∃ kk : Nat, kk ≤ n ∧ iv = .int .i64 kk ∧ Aside0 (Below w8.heap.size w8 wr)) (fun iv _ => n - (intOf iv).toNat)
        case atStart => exact ⟨0, Nat.zero_le _, rfl, ⟨Below.refl _ _⟩⟩
        case round =>
          obtain ⟨kk, hkk, rfl, HBI⟩ := hrel
          by_cases hlt2 : kk < n
          · obtain ⟨m, hmk⟩ : ∃ m, ms[kk]? = some m := ⟨_, List.getElem?_eq_getElem (by rw [HN.out]; exact hlt2)⟩
            have hmem := List.mem_of_getElem? hmk
            obtain ⟨ad, rfl, y0, y1, -⟩ := HM.out kk m hmk
            obtain ⟨hw1, hw2, -⟩ := HMW.out m hmem
            obtain ⟨y, hy, he, -, hbyt, -, -⟩ := out_val HG.out ((check_0 HQT.out).1 m hmem)
            have hf2 : (findC (some x') m.ix m.sub).2 = 0 := (HSX.out.find m.ix m.sub).trans (by rw [he])
            have hv1 : valC (some d) m = (findC (some d) m.ix m.sub).1.val := rfl
            have hv2 : valC (some x') m = (findC (some x') m.ix m.sub).1.val := rfl
            have hf1 : (findC (some d) m.ix m.sub).2 = 0 := by rw [he]
            have hwfx := HG.out.find m.ix m.sub
            have hvx := HVX.out m hmem
            have hmz := HALL.out m hmem
            obtain ⟨ix, sub, bits⟩ := m
            simp only at y0 y1 hw1 hw2 hv1 hv2 hf1 hf2 hwfx hvx hmz
            obtain ⟨zs, hzs⟩ : ∃ zs, (findC (some d) ix sub).1.val = zs := ⟨_, rfl⟩
            obtain ⟨zx, hzx⟩ : ∃ zx, (findC (some x') ix sub).1.val = zx := ⟨_, rfl⟩
            rw [hzs] at hv1
            rw [hzx] at hv2
            have hmz' := hmz
            rw [hv1] at hmz'
            have HZZ := Aside0.mk (show zx = zs by
              have h := hvx
              unfold valC at h
              simp only at h
              rw [hzs, hzx] at h
              exact h)
            obtain ⟨⟨mt, mc⟩, hmy⟩ : ∃ r, mayW (some d) ix sub zs = r := ⟨_, rfl⟩
            have HG1 := Aside0.mk fun (W : World) (hW : Below w8.heap.size w8 W) => (show Calls Tryd.prog 25 #[.pointer (some ⟨gd, 0, none⟩), pl ix sub] W (fun e w' => ∃ A c, e = .returned (.tuple #[.slice A zs.length c, .bool true]) ∧ Arg w' A c zs ∧ Below W.heap.size W w') by
              refine (get_any w.heap.size (.pointer (some ⟨gd, 0, none⟩)) (some d) ix sub hw1 hw2 W ⟨gd, rfl, (HD8.out.below hW).dict⟩).mono ?_
              rintro e w' ⟨v, rfl, ⟨A', c', rfl, h1, -⟩, h2⟩
              rw [hzs] at h1 ⊢
              rw [hf1]
              exact ⟨A', c', rfl, h1, h2⟩)
            have HG2 := Aside0.mk fun (W : World) (hW : Below w8.heap.size w8 W) => (show Calls Tryd.prog 25 #[.pointer (some ⟨gx, 0, none⟩), pl ix sub] W (fun e w' => ∃ A c, e = .returned (.tuple #[.slice A zx.length c, .bool true]) ∧ Arg w' A c zx ∧ Below W.heap.size W w') by
              refine (get_any w.heap.size (.pointer (some ⟨gx, 0, none⟩)) (some x') ix sub hw1 hw2 W ⟨gx, rfl, (HX8.out.below hW).dict⟩).mono ?_
              rintro e w' ⟨v, rfl, ⟨A', c', rfl, h1, -⟩, h2⟩
              rw [hzx] at h1 ⊢
              rw [hf2]
              exact ⟨A', c', rfl, h1, h2⟩)
            have HMY := Aside0.mk fun (W : World) (hW : Below w8.heap.size w8 W) (A' : Option Addr) (c' : Nat) (ha : Arg W A' c' zs) => (show Calls Tryd.prog 26 #[.pointer (some ⟨gd, 0, none⟩), pl ix sub, .slice A' zs.length c'] W (fun e w' => e = .returned (.tuple #[.int .u8 mt, .int .u32 mc]) ∧ Below W.heap.size W w') by
              have h := may_any w.heap.size (.pointer (some ⟨gd, 0, none⟩)) (some d) ix sub hw1 hw2 A' c' zs W ⟨gd, rfl, (HD8.out.below hW).dict⟩ ((HT.out.below HB8.out).below hW) ha hwfx
              rw [hmy] at h
              exact h)
            have hb8w := HB8.out.trans (HBI.out.mono HB8.out.size)
            have HY0 := Aside0.mk y0
            have HY1 := Aside0.mk y1
            have z0 := pw_cell_below hb8w y0
            have z1 := pw_cell_below hb8w y1
            have hi1 : (kk : Int) < (n : Int) := by omega
            obtain ⟨nz, hnz⟩ : ∃ nz, zs.length = nz := ⟨_, rfl⟩
            obtain ⟨nx, hnx⟩ : ∃ nx, zx.length = nx := ⟨_, rfl⟩
            have HNZ := Aside0.mk hnz
            have HNX := Aside0.mk hnx
            rw [hnz] at HG1 HMY
            rw [hnx] at HG2
            have HGA := Aside0.mk True.intro
            obtain rfl : mc = 0 := by rw [hmy] at hmz'; exact hmz'
            clear y0 y1 hb8w hzs hzx hmem hy he hbyt hf1 hf2 hwfx hnz hnx hmy hmk hv1 hv2 hvx hmz hmz'
            go_wp2_with (first
              | (have hgate := HGA.out; clear hgate; go_at_call 25; refine (HG1.out wr HBI.out).mono ?_; rintro e w9 ⟨A9, c9, rfl, ha9, hb9⟩; have HA9 := Aside0.mk ha9; have HB9 := Aside0.mk (HBI.out.trans (hb9.mono HBI.out.size)); have z2 := pw_cell_below (HB8.out.trans (HB9.out.mono HB8.out.size)) HY0.out; have z3 := pw_cell_below (HB8.out.trans (HB9.out.mono HB8.out.size)) HY1.out; clear ha9 hb9 HGA)
              | (go_at_call 25; refine (HG2.out w9 HB9.out).mono ?_; rintro e w10 ⟨A10, c10, rfl, ha10, hb10⟩; have HA10 := Aside0.mk ha10; have HA9' := Aside0.mk (HA9.out.below hb10); have HB10 := Aside0.mk (HB9.out.trans (hb10.mono HB9.out.size)); have z4 := pw_cell_below (HB8.out.trans (HB10.out.mono HB8.out.size)) HY0.out; have z5 := pw_cell_below (HB8.out.trans (HB10.out.mono HB8.out.size)) HY1.out; clear ha10 hb10)
              | (go_at_call 26; refine (HMY.out w10 HB10.out A9 c9 HA9'.out).mono ?_; rintro e w11 ⟨rfl, hb11⟩; have HB11 := Aside0.mk (HB10.out.trans (hb11.mono HB10.out.size)); have cv9 := str_rd HA9'.out.rd HNZ.out c9 w11 hb11; have cv10 := str_rd HA10.out.rd HNX.out c10 w11 hb11; rw [HZZ.out] at cv10; clear hb11)
              | (go_at_call 18; refine (works_any _ (HT.out.below (HB8.out.trans (HB11.out.mono HB8.out.size)))).mono ?_; rintro e wz ⟨rfl, hbz⟩; have HBZ := Aside0.mk ((HB8.out.trans (HB11.out.mono HB8.out.size)).trans (hbz.mono (HB8.out.trans (HB11.out.mono HB8.out.size)).size)); clear hbz))
            go_roundw
            case rel => exact ⟨kk + 1, by omega, by go_num, HB11⟩
            case measure => simp [intOf]; omega
          · have HBN := Aside0.mk (HB8.out.trans (HBI.out.mono HB8.out.size))
            obtain rfl : kk = n := by omega
            go_wp2_with (go_at_call 18; refine (works_any _ (HT.out.below HBN.out)).mono ?_; rintro e wz ⟨rfl, hbz⟩; have HBZ := Aside0.mk (HBN.out.trans (hbz.mono HBN.out.size)); clear hbz)
            go_ret
            exact ⟨rfl, HBZ.out⟩
      · obtain ⟨rfl, rfl⟩ := Prod.mk.inj hun
        have HEX := Aside0.mk hex
        have q1 : (cw == 0) = false := by simpa using hcw
        have q2 : (cw != 0) = true := by simpa using hcw
        clear hex hun
        obtain ⟨x', hx'⟩ : ∃ x', writesC x [] = x' := ⟨_, rfl⟩
        rw [hx'] at HWT HSX
        clear hx'
        go_wp2_with (first
          | (have hgate := HGC.out; clear hgate; go_at_call 21; refine (HCK.out true wa (Below.refl _ _)).mono ?_; rw [HQT.out]; rintro e w4 ⟨rfl, hb4⟩; have HB4 := Aside0.mk hb4; clear hb4 HGC)
          | (go_at_call 21; refine (HCK.out false w4 HB4.out).mono ?_; rw [HQF.out]; rintro e w5 ⟨rfl, hb5⟩; have HB5 := Aside0.mk (HB4.out.trans (hb5.mono HB4.out.size)); clear hb5)
          | (go_at_call 22; refine (HPK.out w5 HB5.out).mono ?_; rintro e w6 ⟨gp, rfl, hgp, hrow, hb6⟩; have HB6 := Aside0.mk (HB5.out.trans (hb6.mono HB5.out.size)); have HROW := Aside0.mk hrow; clear hb6 hrow hgp)
          | (go_at_call 23; refine (HSI.out w6 HB6.out).mono ?_; rintro e w7 ⟨rfl, hb7⟩; have HB7 := Aside0.mk (HB6.out.trans (hb7.mono HB6.out.size)); have HROW7 := Aside0.mk (show Num.RowB w7 gp (packC (some d) ms) from (hb7.block gp (Array.getElem?_eq_some_iff.1 HROW.out).1).trans HROW.out); clear hb7)
          | (go_at_call 24; refine (HWT.out w7 HB7.out gp HROW7.out).mono ?_; rintro e w8 ⟨rfl, hd8, hf8⟩; have HX8 := Aside0.mk hd8; have HF8 := Aside0.mk (HF.out.trans ((Fr.of_below HB7.out).trans hf8)); clear hd8 hf8))
        have HB8 := Aside0.mk (HB3.out.trans (HF8.out.below HGT.out))
        have HD8 := Aside0.mk (HDF.out w8 HF8.out)

        go_loopw [15] (fun iv wr => ∃ kk : Nat, kk ≤ n ∧ iv = .int .i64 kk ∧ Aside0 (Below w8.heap.size w8 wr) ∧ Aside0 (∀ (j : Nat) (m : Mp), j < kk → ms[j]? = some m → (mayW (some d) m.ix m.sub (valC (some d) m)).2 = 0)) (fun iv _ => n - (intOf iv).toNat)
        case atStart => exact ⟨0, Nat.zero_le _, rfl, ⟨Below.refl _ _⟩, ⟨fun j m h => absurd h (by omega)⟩⟩
        case round =>
          obtain ⟨kk, hkk, rfl, HBI, HAL⟩ := hrel
          by_cases hlt2 : kk < n
          · obtain ⟨m, hmk⟩ : ∃ m, ms[kk]? = some m := ⟨_, List.getElem?_eq_getElem (by rw [HN.out]; exact hlt2)⟩
            have hmem := List.mem_of_getElem? hmk
            obtain ⟨ad, rfl, y0, y1, -⟩ := HM.out kk m hmk
            obtain ⟨hw1, hw2, -⟩ := HMW.out m hmem
            obtain ⟨y, hy, he, -, hbyt, -, -⟩ := out_val HG.out ((check_0 HQT.out).1 m hmem)
            have hf2 : (findC (some x') m.ix m.sub).2 = 0 := (HSX.out.find m.ix m.sub).trans (by rw [he])
            have hv1 : valC (some d) m = (findC (some d) m.ix m.sub).1.val := rfl
            have hv2 : valC (some x') m = (findC (some x') m.ix m.sub).1.val := rfl
            have hf1 : (findC (some d) m.ix m.sub).2 = 0 := by rw [he]
            have hwfx := HG.out.find m.ix m.sub
            have HMK := Aside0.mk hmk
            obtain ⟨ix, sub, bits⟩ := m
            simp only at y0 y1 hw1 hw2 hv1 hv2 hf1 hf2 hwfx HMK
            obtain ⟨zs, hzs⟩ : ∃ zs, (findC (some d) ix sub).1.val = zs := ⟨_, rfl⟩
            obtain ⟨zx, hzx⟩ : ∃ zx, (findC (some x') ix sub).1.val = zx := ⟨_, rfl⟩
            rw [hzs] at hv1
            rw [hzx] at hv2
            skip
            obtain ⟨⟨mt, mc⟩, hmy⟩ : ∃ r, mayW (some d) ix sub zs = r := ⟨_, rfl⟩
            have HG1 := Aside0.mk fun (W : World) (hW : Below w8.heap.size w8 W) => (show Calls Tryd.prog 25 #[.pointer (some ⟨gd, 0, none⟩), pl ix sub] W (fun e w' => ∃ A c, e = .returned (.tuple #[.slice A zs.length c, .bool true]) ∧ Arg w' A c zs ∧ Below W.heap.size W w') by
              refine (get_any w.heap.size (.pointer (some ⟨gd, 0, none⟩)) (some d) ix sub hw1 hw2 W ⟨gd, rfl, (HD8.out.below hW).dict⟩).mono ?_
              rintro e w' ⟨v, rfl, ⟨A', c', rfl, h1, -⟩, h2⟩
              rw [hzs] at h1 ⊢
              rw [hf1]
              exact ⟨A', c', rfl, h1, h2⟩)
            have HG2 := Aside0.mk fun (W : World) (hW : Below w8.heap.size w8 W) => (show Calls Tryd.prog 25 #[.pointer (some ⟨gx, 0, none⟩), pl ix sub] W (fun e w' => ∃ A c, e = .returned (.tuple #[.slice A zx.length c, .bool true]) ∧ Arg w' A c zx ∧ Below W.heap.size W w') by
              refine (get_any w.heap.size (.pointer (some ⟨gx, 0, none⟩)) (some x') ix sub hw1 hw2 W ⟨gx, rfl, (HX8.out.below hW).dict⟩).mono ?_
              rintro e w' ⟨v, rfl, ⟨A', c', rfl, h1, -⟩, h2⟩
              rw [hzx] at h1 ⊢
              rw [hf2]
              exact ⟨A', c', rfl, h1, h2⟩)
            have HMY := Aside0.mk fun (W : World) (hW : Below w8.heap.size w8 W) (A' : Option Addr) (c' : Nat) (ha : Arg W A' c' zs) => (show Calls Tryd.prog 26 #[.pointer (some ⟨gd, 0, none⟩), pl ix sub, .slice A' zs.length c'] W (fun e w' => e = .returned (.tuple #[.int .u8 mt, .int .u32 mc]) ∧ Below W.heap.size W w') by
              have h := may_any w.heap.size (.pointer (some ⟨gd, 0, none⟩)) (some d) ix sub hw1 hw2 A' c' zs W ⟨gd, rfl, (HD8.out.below hW).dict⟩ ((HT.out.below HB8.out).below hW) ha hwfx
              rw [hmy] at h
              exact h)
            have hb8w := HB8.out.trans (HBI.out.mono HB8.out.size)
            have HY0 := Aside0.mk y0
            have HY1 := Aside0.mk y1
            have z0 := pw_cell_below hb8w y0
            have z1 := pw_cell_below hb8w y1
            have hi1 : (kk : Int) < (n : Int) := by omega
            obtain ⟨nz, hnz⟩ : ∃ nz, zs.length = nz := ⟨_, rfl⟩
            obtain ⟨nx, hnx⟩ : ∃ nx, zx.length = nx := ⟨_, rfl⟩
            have HNZ := Aside0.mk hnz
            have HNX := Aside0.mk hnx
            rw [hnz] at HG1 HMY
            rw [hnx] at HG2
            have HGA := Aside0.mk True.intro
            have HMC := Aside0.mk (show (mayW (some d) ix sub (valC (some d) ⟨ix, sub, bits⟩)).2 = mc by rw [hv1, hmy])
            clear y0 y1 hb8w hzs hzx hmem hy he hbyt hf1 hf2 hwfx hnz hnx hmy hmk hv1 hv2
            by_cases hmc : mc = 0
            · subst hmc
              go_wp2_with (first
              | (have hgate := HGA.out; clear hgate; go_at_call 25; refine (HG1.out wr HBI.out).mono ?_; rintro e w9 ⟨A9, c9, rfl, ha9, hb9⟩; have HA9 := Aside0.mk ha9; have HB9 := Aside0.mk (HBI.out.trans (hb9.mono HBI.out.size)); have z2 := pw_cell_below (HB8.out.trans (HB9.out.mono HB8.out.size)) HY0.out; have z3 := pw_cell_below (HB8.out.trans (HB9.out.mono HB8.out.size)) HY1.out; clear ha9 hb9 HGA)
              | (go_at_call 25; refine (HG2.out w9 HB9.out).mono ?_; rintro e w10 ⟨A10, c10, rfl, ha10, hb10⟩; have HA10 := Aside0.mk ha10; have HA9' := Aside0.mk (HA9.out.below hb10); have HB10 := Aside0.mk (HB9.out.trans (hb10.mono HB9.out.size)); have z4 := pw_cell_below (HB8.out.trans (HB10.out.mono HB8.out.size)) HY0.out; have z5 := pw_cell_below (HB8.out.trans (HB10.out.mono HB8.out.size)) HY1.out; clear ha10 hb10)
              | (go_at_call 26; refine (HMY.out w10 HB10.out A9 c9 HA9'.out).mono ?_; rintro e w11 ⟨rfl, hb11⟩; have HB11 := Aside0.mk (HB10.out.trans (hb11.mono HB10.out.size)); have cv9 := str_rd HA9'.out.rd HNZ.out c9 w11 hb11; have cv10 := str_rd HA10.out.rd HNX.out c10 w11 hb11; clear hb11)
              | (go_at_call 18; refine (works_any _ (HT.out.below (HB8.out.trans (HB11.out.mono HB8.out.size)))).mono ?_; rintro e wz ⟨rfl, hbz⟩; have HBZ := Aside0.mk ((HB8.out.trans (HB11.out.mono HB8.out.size)).trans (hbz.mono (HB8.out.trans (HB11.out.mono HB8.out.size)).size)); clear hbz))
              go_roundw
              case rel =>
                refine ⟨kk + 1, by omega, by go_num, HB11, ⟨fun j m' hj hm' => ?_⟩⟩
                by_cases hjk : j < kk
                · exact HAL.out j m' hjk hm'
                · obtain rfl : j = kk := by omega
                  obtain rfl := Option.some.inj (HMK.out.symm.trans hm')
                  exact HMC.out
              case measure => simp [intOf]; omega
            · have q3 : (mc == 0) = false := by simpa using hmc
              have q4 : (mc != 0) = true := by simpa using hmc
              go_wp2_with (first
              | (have hgate := HGA.out; clear hgate; go_at_call 25; refine (HG1.out wr HBI.out).mono ?_; rintro e w9 ⟨A9, c9, rfl, ha9, hb9⟩; have HA9 := Aside0.mk ha9; have HB9 := Aside0.mk (HBI.out.trans (hb9.mono HBI.out.size)); have z2 := pw_cell_below (HB8.out.trans (HB9.out.mono HB8.out.size)) HY0.out; have z3 := pw_cell_below (HB8.out.trans (HB9.out.mono HB8.out.size)) HY1.out; clear ha9 hb9 HGA)
              | (go_at_call 25; refine (HG2.out w9 HB9.out).mono ?_; rintro e w10 ⟨A10, c10, rfl, ha10, hb10⟩; have HA10 := Aside0.mk ha10; have HA9' := Aside0.mk (HA9.out.below hb10); have HB10 := Aside0.mk (HB9.out.trans (hb10.mono HB9.out.size)); have z4 := pw_cell_below (HB8.out.trans (HB10.out.mono HB8.out.size)) HY0.out; have z5 := pw_cell_below (HB8.out.trans (HB10.out.mono HB8.out.size)) HY1.out; clear ha10 hb10)
              | (go_at_call 26; refine (HMY.out w10 HB10.out A9 c9 HA9'.out).mono ?_; rintro e w11 ⟨rfl, hb11⟩; have HB11 := Aside0.mk (HB10.out.trans (hb11.mono HB10.out.size)); have cv9 := str_rd HA9'.out.rd HNZ.out c9 w11 hb11; have cv10 := str_rd HA10.out.rd HNX.out c10 w11 hb11; clear hb11)
              | (go_at_call 18; refine (works_any _ (HT.out.below (HB8.out.trans (HB11.out.mono HB8.out.size)))).mono ?_; rintro e wz ⟨rfl, hbz⟩; have HBZ := Aside0.mk ((HB8.out.trans (HB11.out.mono HB8.out.size)).trans (hbz.mono (HB8.out.trans (HB11.out.mono HB8.out.size)).size)); clear hbz))
              go_ret
              exact ⟨rfl, HBZ.out⟩
          · exfalso
            obtain ⟨m, hm, hm2⟩ := HEX.out
            obtain ⟨j, hj, hjm⟩ := List.getElem_of_mem hm
            exact hm2 (HAL.out j m (by have := HN.out; omega) (by rw [List.getElem?_eq_getElem hj, hjm]))
end Go.Proofs.YtokebpeplopjhaaDoor.Mp
