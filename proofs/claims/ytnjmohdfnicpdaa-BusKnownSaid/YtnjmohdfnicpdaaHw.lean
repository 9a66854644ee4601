/- The bus and the document's bus, plainly. -/
import Derived.Test.YtnjmohdfnicpdaaHv
namespace Go.Proofs.Ytnjmohdfnicpdaa.Bus
open Go.RowKit Go.Shelf Go.Lib Go.Sort Go.Proofs.Ytnjmohdfnicpdaa.Frm Go.Proofs.Ytnjmohdfnicpdaa.Rng

/-- What waits on the bus (a heap), and in the document's order. -/
structure PairP (l L : List Sn) (N : Int) : Prop where
  perm : l.Perm L
  ord : L.Pairwise (fun a b => aheadC a b = true)
  dst : L.Pairwise (fun a b => a.num ≠ b.num)
  bnd : ∀ x ∈ L, 0 ≤ x.num ∧ x.num < N
  n0 : 0 ≤ N
theorem PairP.nil : PairP [] [] 0 := ⟨.refl _, .nil, .nil, fun x hx => (by cases hx), by decide⟩
theorem PairP.len {l L : List Sn} {N : Int} (h : PairP l L N) : l.length = L.length := h.perm.length_eq
theorem dst_eq {L : List Sn} (h : L.Pairwise (fun a b => a.num ≠ b.num)) {a b : Sn} (ha : a ∈ L) (hb : b ∈ L) (he : a.num = b.num) : a = b := by
  induction L with
  | nil => cases ha
  | cons y r ih =>
    rw [List.pairwise_cons] at h
    rcases List.mem_cons.1 ha with h1 | h1
    · rcases List.mem_cons.1 hb with h2 | h2
      · rw [h1, h2]
      · exact absurd he (by rw [h1]; exact h.1 b h2)
    · rcases List.mem_cons.1 hb with h2 | h2
      · exact absurd he.symm (by rw [h2]; exact h.1 a h1)
      · exact ih h.2 h1 h2
theorem atL_split (L : List Sn) (x : Sn) : L.take (atL L x) = L.takeWhile (fun y => aheadC y x) ∧ L.drop (atL L x) = L.dropWhile (fun y => aheadC y x) := by
  induction L with
  | nil => exact ⟨rfl, rfl⟩
  | cons y r ih =>
    by_cases h : aheadC y x = true
    · simp only [atL, List.takeWhile_cons, List.dropWhile_cons, h, if_true, List.length_cons, List.take_succ_cons, List.drop_succ_cons]
      exact ⟨by rw [show (r.takeWhile fun y => aheadC y x).length = atL r x from rfl, ih.1], ih.2⟩
    · simp [atL, List.takeWhile_cons, List.dropWhile_cons, h]
theorem insL_cons {L : List Sn} {x y : Sn} (h : aheadC y x = true) : insL x (y :: L) = y :: insL x L := by
  have h1 : atL (y :: L) x = atL L x + 1 := by simp [atL, h]
  simp [insL, h1]
theorem insL_head {L : List Sn} {x y : Sn} (h : aheadC y x = false) : insL x (y :: L) = x :: y :: L := by
  have h1 : atL (y :: L) x = 0 := by simp [atL, h]
  simp [insL, h1]
theorem insL_perm (x : Sn) (L : List Sn) : (insL x L).Perm (L ++ [x]) := by
  have h1 : (L.take (atL L x) ++ [x] ++ L.drop (atL L x)).Perm (L.take (atL L x) ++ L.drop (atL L x) ++ [x]) := by
    rw [List.append_assoc, List.append_assoc]
    exact (List.perm_append_comm).append_left _
  rwa [List.take_append_drop] at h1
theorem insL_len (x : Sn) (L : List Sn) : (insL x L).length = L.length + 1 := by rw [(insL_perm x L).length_eq]; simp
theorem insL_ord {x : Sn} : ∀ {L : List Sn}, L.Pairwise (fun a b => aheadC a b = true) → (∀ y ∈ L, y.num ≠ x.num) → (insL x L).Pairwise (fun a b => aheadC a b = true)
  | [], _, _ => by simp [insL, atL]
  | y :: r, h, hd => by
    rw [List.pairwise_cons] at h
    by_cases hy : aheadC y x = true
    · rw [insL_cons hy, List.pairwise_cons]
      refine ⟨fun z hz => ?_, insL_ord h.2 (fun z hz => hd z (List.mem_cons_of_mem _ hz))⟩
      rcases List.mem_append.1 ((insL_perm x r).mem_iff.1 hz) with hz | hz
      · exact h.1 z hz
      · rw [List.mem_singleton] at hz
        rw [hz]
        exact hy
    · have hy : aheadC y x = false := by simpa using hy
      have hxy := ahead_ne (hd y List.mem_cons_self) hy
      rw [insL_head hy, List.pairwise_cons]
      refine ⟨fun z hz => ?_, List.pairwise_cons.2 h⟩
      rcases List.mem_cons.1 hz with rfl | hz
      · exact hxy
      · exact ahead_swo.trans _ _ _ hxy (h.1 z hz)
/-- One more. -/
theorem PairP.send {l l' L : List Sn} {N : Int} {x : Sn} (h : PairP l L N) (hx : x.num = N) (hp : l'.Perm (l ++ [x])) : PairP l' (insL x L) (N + 1) := by
  have hne : ∀ y ∈ L, y.num ≠ x.num := fun y hy => by have := (h.bnd y hy).2; omega
  have hm : ∀ y, y ∈ insL x L ↔ y ∈ L ∨ y = x := fun y => by rw [(insL_perm x L).mem_iff, List.mem_append, List.mem_singleton]
  refine ⟨hp.trans ((h.perm.append_right [x]).trans (insL_perm x L).symm), insL_ord h.ord hne, ?_, fun y hy => ?_, by have := h.n0; omega⟩
  · refine ((insL_perm x L).pairwise_iff (fun {a b} hab => fun e => hab e.symm)).2 ?_
    rw [List.pairwise_append]
    exact ⟨h.dst, by simp, fun a ha b hb => by rw [List.mem_singleton] at hb; rw [hb]; exact hne a ha⟩
  · rcases (hm y).1 hy with hy | rfl
    · have := h.bnd y hy
      omega
    · have := h.n0
      omega
/-- The first comes. -/
theorem PairP.next {l l' L : List Sn} {N : Int} {x : Sn} (h : PairP l L N) (hp : Hp l l.length) (h0 : 0 < l.length) (hx : x = nth l 0) (hq : (x :: l').Perm l) : ∃ L', L = x :: L' ∧ PairP l' L' N := by
  rcases L with _ | ⟨y, L'⟩
  · rw [h.len] at h0
    exact absurd h0 (Nat.lt_irrefl _)
  · have ho := List.pairwise_cons.1 h.ord
    have hd := List.pairwise_cons.1 h.dst
    have hyl : y ∈ l := h.perm.mem_iff.2 List.mem_cons_self
    have hfy : aheadC y x = false := by
      obtain ⟨k, hk, hky⟩ := List.getElem_of_mem hyl
      have := hp.first k hk
      rw [nth_get hk, hky] at this
      rw [hx]
      exact this
    have hxL : x ∈ y :: L' := h.perm.mem_iff.1 (hq.mem_iff.1 List.mem_cons_self)
    rcases List.mem_cons.1 hxL with hxy | hxL
    · subst hxy
      refine ⟨L', rfl, ⟨List.Perm.cons_inv (hq.trans h.perm), ho.2, hd.2, fun z hz => h.bnd z (List.mem_cons_of_mem _ hz), h.n0⟩⟩
    · have := ho.1 x hxL
      rw [hfy] at this
      cases this
/-- What a node has sent is taken away. -/
theorem PairP.gone {l l' L : List Sn} {N : Int} (h : PairP l L N) (nd : Int) (hp : l'.Perm (l.filter (keepP nd))) : PairP l' (L.filter (keepP nd)) N :=
  ⟨hp.trans (h.perm.filter _), h.ord.filter _, h.dst.filter _, fun x hx => h.bnd x (List.mem_filter.1 hx).1, h.n0⟩
/-- Sorted, they stand as in the document. -/
theorem PairP.waits {l l' L : List Sn} {N : Int} (h : PairP l L N) (hp : l'.Perm l) (hs : Sorted l') : l' = L := by
  have hpL := hp.trans h.perm
  refine List.Perm.eq_of_pairwise (le := fun a b => aheadC b a = false) (fun a b ha hb h1 h2 => ?_) ?_ ?_ hpL
  · refine dst_eq h.dst (hpL.mem_iff.1 ha) hb ?_
    apply Classical.byContradiction
    intro hne
    have := ahead_ne hne h2
    rw [h1] at this
    cases this
  · rw [List.pairwise_iff_getElem]
    intro i j hi hj hij
    have := hs i j hij hj
    rwa [nth_get hj, nth_get hi] at this
  · exact h.ord.imp (fun hab => ahead_asym hab)
end Go.Proofs.Ytnjmohdfnicpdaa.Bus
