/- Frames that wait, plainly: which goes ahead, rows of them, heaps. -/
import Derived.Test.YtnjmohdfnicpdaaBa
import Derived.Sort.Statements
namespace Go.Proofs.Ytnjmohdfnicpdaa.Bus
open Go.Proofs.Ytnjmohdfnicpdaa.Frm

/-- A frame that waits. -/
structure Sn where
  nd : Int
  id : Int
  len : Int
  x0 : Int
  x1 : Int
  x2 : Int
  x3 : Int
  x4 : Int
  x5 : Int
  x6 : Int
  x7 : Int
  rem : Bool
  num : Int
deriving Inhabited, DecidableEq
def Sn.fm (s : Sn) : Fm := ⟨s.id, s.len, [s.x0, s.x1, s.x2, s.x3, s.x4, s.x5, s.x6, s.x7], s.rem⟩
def Sn.fcells (s : Sn) : Array Value := #[.int .u16 s.id, .int .i64 s.len, .int .u8 s.x0, .int .u8 s.x1, .int .u8 s.x2, .int .u8 s.x3, .int .u8 s.x4, .int .u8 s.x5, .int .u8 s.x6, .int .u8 s.x7, .bool s.rem]
def Sn.cells (s : Sn) : List Value := [.int .i64 s.nd, .int .u16 s.id, .int .i64 s.len, .int .u8 s.x0, .int .u8 s.x1, .int .u8 s.x2, .int .u8 s.x3, .int .u8 s.x4, .int .u8 s.x5, .int .u8 s.x6, .int .u8 s.x7, .bool s.rem, .int .i64 s.num]
theorem Sn.cells_len (s : Sn) : s.cells.length = 13 := rfl
theorem Sn.cells_one (s : Sn) : ∀ v ∈ s.cells, v.oneCell' = true := by
  intro v hv
  simp [Sn.cells] at hv
  rcases hv with rfl | rfl | rfl | rfl | rfl | rfl | rfl | rfl | rfl | rfl | rfl | rfl | rfl <;> rfl
theorem Sn.cells_inj {s t : Sn} (h : s.cells = t.cells) : s = t := by
  obtain ⟨⟩ := s
  obtain ⟨⟩ := t
  simp [Sn.cells] at h
  simp [h]
/-- Does one go ahead of another? -/
def aheadC (s t : Sn) : Bool := bef s.id s.rem t.id t.rem || (!bef t.id t.rem s.id s.rem && decide (s.num < t.num))
def rb (b : Bool) : Int := if b then 1 else 0
theorem ahead_iff (s t : Sn) : aheadC s t = true ↔ s.id < t.id ∨ (s.id = t.id ∧ (rb s.rem < rb t.rem ∨ (rb s.rem = rb t.rem ∧ s.num < t.num))) := by
  unfold aheadC bef rb
  rcases s.rem with _ | _ <;> rcases t.rem with _ | _ <;> simp <;> omega
theorem ahead_not (s t : Sn) : aheadC s t = false ↔ ¬ (s.id < t.id ∨ (s.id = t.id ∧ (rb s.rem < rb t.rem ∨ (rb s.rem = rb t.rem ∧ s.num < t.num)))) := by
  rw [← ahead_iff]
  simp
theorem ahead_swo : Go.Sort.SWO aheadC where
  irrefl x := by rw [ahead_not]; omega
  trans x y z := by simp only [ahead_iff]; omega
  ntrans x y z := by simp only [ahead_not]; omega
theorem ahead_asym {s t : Sn} (h : aheadC s t = true) : aheadC t s = false := by
  rw [ahead_iff] at h
  rw [ahead_not]
  omega
theorem ahead_ne {s t : Sn} (h : s.num ≠ t.num) : aheadC s t = false → aheadC t s = true := by
  rw [ahead_iff, ahead_not]
  omega
theorem ahead_mix {a b c : Sn} (h1 : aheadC a b = false) (h2 : aheadC c b = true) : aheadC a c = false := by
  rw [ahead_iff] at h2
  rw [ahead_not] at h1 ⊢
  omega

/-- The k-th of a row. -/
def nth (l : List Sn) (k : Nat) : Sn := l.getD k default
theorem nth_get {l : List Sn} {k : Nat} (h : k < l.length) : nth l k = l[k] := by simp [nth, h]
theorem nth_some {l : List Sn} {k : Nat} {x : Sn} (h : l[k]? = some x) : nth l k = x := by simp [nth, List.getD, h]
theorem get_nth {l : List Sn} {k : Nat} (h : k < l.length) : l[k]? = some (nth l k) := by rw [nth_get h]; exact List.getElem?_eq_getElem h
/-- Two change their places. -/
def swL (l : List Sn) (i j : Nat) : List Sn := (l.set i (nth l j)).set j (nth l i)
theorem swL_len (l : List Sn) (i j : Nat) : (swL l i j).length = l.length := by simp [swL]
theorem swL_perm {l : List Sn} {i j : Nat} (hi : i < l.length) (hj : j < l.length) : (swL l i j).Perm l := by
  unfold swL
  rw [nth_get hi, nth_get hj]
  exact List.set_set_perm hi hj
theorem nth_swL {l : List Sn} {i j : Nat} (hi : i < l.length) (hj : j < l.length) (k : Nat) : nth (swL l i j) k = if k = j then nth l i else if k = i then nth l j else nth l k := by
  unfold swL
  by_cases h1 : k = j
  · subst h1
    rw [if_pos rfl]
    exact nth_some (by rw [List.getElem?_set_self (by simpa using hj)])
  · rw [if_neg h1]
    unfold nth
    rw [List.getD, List.getElem?_set_ne (by omega)]
    by_cases h2 : k = i
    · subst h2
      rw [if_pos rfl, List.getElem?_set_self hi]
      rfl
    · rw [if_neg h2, List.getElem?_set_ne (by omega)]
      rfl
theorem swL_take {l : List Sn} {i j n : Nat} (hi : i < n) (hj : j < n) (k : Nat) (hk : n ≤ k) : (swL l i j)[k]? = l[k]? := by
  unfold swL
  rw [List.getElem?_set_ne (by omega), List.getElem?_set_ne (by omega)]

def par (c : Nat) : Nat := (c - 1) / 2
/-- A heap of the first n, from the place i0 on. -/
def HpF (l : List Sn) (n i0 : Nat) : Prop := ∀ c, 0 < c → c < n → i0 ≤ par c → aheadC (nth l c) (nth l (par c)) = false
def Hp (l : List Sn) (n : Nat) : Prop := ∀ c, 0 < c → c < n → aheadC (nth l c) (nth l (par c)) = false
theorem HpF.all {l : List Sn} {n : Nat} (h : HpF l n 0) : Hp l n := fun c h0 hc => h c h0 hc (Nat.zero_le _)
/-- A heap but for what is at the place j, that may have to go up. -/
structure HpU (l : List Sn) (j : Nat) : Prop where
  hp : ∀ c, 0 < c → c < l.length → c ≠ j → aheadC (nth l c) (nth l (par c)) = false
  up : 0 < j → ∀ c, 0 < c → c < l.length → par c = j → aheadC (nth l c) (nth l (par j)) = false
theorem HpU.done {l : List Sn} {j : Nat} (h : HpU l j) (h2 : j = 0 ∨ aheadC (nth l j) (nth l (par j)) = false) : Hp l l.length := by
  intro c h0 hc
  by_cases he : c = j
  · subst he
    rcases h2 with rfl | h2
    · omega
    · exact h2
  · exact h.hp c h0 hc he
theorem par_lt {c : Nat} (h : 0 < c) : par c < c := by unfold par; omega
theorem HpU.step {l : List Sn} {j : Nat} (h : HpU l j) (hj : 0 < j) (hl : j < l.length) (hlt : aheadC (nth l j) (nth l (par j)) = true) : HpU (swL l (par j) j) (par j) := by
  have hp := par_lt hj
  have hs : ∀ k, nth (swL l (par j) j) k = if k = j then nth l (par j) else if k = par j then nth l j else nth l k := nth_swL (by omega) hl
  constructor
  · intro c h0 hc hcp
    rw [swL_len] at hc
    rw [hs, hs]
    have hpc := par_lt h0
    by_cases h1 : c = j
    · subst h1
      rw [if_pos rfl, if_neg (by omega), if_pos rfl]
      exact ahead_asym hlt
    · rw [if_neg h1, if_neg hcp]
      by_cases h2 : par c = j
      · rw [if_pos h2]
        exact h.up hj c h0 hc h2
      · rw [if_neg h2]
        by_cases h3 : par c = par j
        · rw [if_pos h3]
          exact ahead_mix (h3 ▸ h.hp c h0 hc h1) hlt
        · rw [if_neg h3]
          exact h.hp c h0 hc h1
  · intro h0 c hc0 hc hpc
    rw [swL_len] at hc
    have hpp := par_lt h0
    have hpc' := par_lt hc0
    rw [hs, hs, if_neg (show par (par j) ≠ j by omega), if_neg (show par (par j) ≠ par j by omega)]
    have h4 := h.hp (par j) h0 (by omega) (by omega)
    by_cases h1 : c = j
    · rw [if_pos h1]
      exact h4
    · rw [if_neg h1, if_neg (by omega)]
      have h5 := h.hp c hc0 hc h1
      rw [hpc] at h5
      exact ahead_swo.ntrans _ _ _ h5 h4
theorem HpU.start {l : List Sn} {x : Sn} (h : Hp l l.length) : HpU (l ++ [x]) l.length := by
  have hn : ∀ k, k < l.length → nth (l ++ [x]) k = nth l k := by
    intro k hk
    unfold nth
    rw [List.getD, List.getElem?_append_left hk]
    rfl
  constructor
  · intro c h0 hc hne
    simp at hc
    have := par_lt h0
    rw [hn c (by omega), hn _ (by omega)]
    exact h c h0 (by omega)
  · intro h0 c hc0 hc hp
    simp at hc
    have := par_lt hc0
    omega
/-- A heap of the first n from i0 on, but for what is at the place i, that may have to go down. -/
structure HpD (l : List Sn) (n i0 i : Nat) : Prop where
  ge : i0 ≤ i
  hp : ∀ c, 0 < c → c < n → i0 ≤ par c → par c ≠ i → aheadC (nth l c) (nth l (par c)) = false
  up : i0 < i → i0 ≤ par i ∧ ∀ c, 0 < c → c < n → par c = i → aheadC (nth l c) (nth l (par i)) = false
theorem HpD.done {l : List Sn} {n i0 i : Nat} (h : HpD l n i0 i) (h2 : ∀ c, 0 < c → c < n → par c = i → aheadC (nth l c) (nth l i) = false) : HpF l n i0 := by
  intro c h0 hc hp
  by_cases he : par c = i
  · rw [he]
    exact h2 c h0 hc he
  · exact h.hp c h0 hc hp he
theorem par_two {c i : Nat} (h0 : 0 < c) : par c = i ↔ c = 2 * i + 1 ∨ c = 2 * i + 2 := by unfold par; omega
/-- j is the child of i that goes first. -/
def MinC (l : List Sn) (n i j : Nat) : Prop := 0 < j ∧ par j = i ∧ j < n ∧ ∀ c, 0 < c → c < n → par c = i → aheadC (nth l c) (nth l j) = false
theorem MinC.none {l : List Sn} {n i j : Nat} (h : MinC l n i j) (h2 : aheadC (nth l j) (nth l i) = false) : ∀ c, 0 < c → c < n → par c = i → aheadC (nth l c) (nth l i) = false :=
  fun c h0 hc hp => ahead_swo.ntrans _ _ _ (h.2.2.2 c h0 hc hp) h2
theorem HpD.step {l : List Sn} {n i0 i j : Nat} (h : HpD l n i0 i) (hn : n ≤ l.length) (hm : MinC l n i j) (hlt : aheadC (nth l j) (nth l i) = true) : HpD (swL l i j) n i0 j := by
  obtain ⟨hj0, hpj, hjn, hmin⟩ := hm
  have hij : i < j := hpj ▸ par_lt hj0
  have hs : ∀ k, nth (swL l i j) k = if k = j then nth l i else if k = i then nth l j else nth l k := nth_swL (by omega) (by omega)
  constructor
  · have := h.ge
    omega
  · intro c h0 hc hp hpc
    rw [hs, hs, if_neg hpc]
    have hpl := par_lt h0
    by_cases h1 : c = j
    · rw [if_pos h1, if_pos (by rw [h1]; exact hpj)]
      exact ahead_asym hlt
    · rw [if_neg h1]
      by_cases h2 : par c = i
      · rw [if_pos h2, if_neg (by omega)]
        exact hmin c h0 hc h2
      · rw [if_neg h2]
        by_cases h3 : c = i
        · rw [if_pos h3]
          have h4 := (h.up (by rw [← h3]; omega)).2 j hj0 hjn hpj
          rw [h3]
          exact h4
        · rw [if_neg h3]
          exact h.hp c h0 hc hp h2
  · intro _
    refine ⟨by rw [hpj]; exact h.ge, fun c h0 hc hp => ?_⟩
    have hpl := par_lt h0
    rw [hs, hs, hpj, if_neg (show i ≠ j by omega), if_pos rfl, if_neg (by omega), if_neg (by omega)]
    have h5 := h.hp c h0 hc (by rw [hp]; have := h.ge; omega) (by omega)
    rw [hp] at h5
    exact h5
theorem HpD.start {l : List Sn} {n i0 : Nat} (h : HpF l n (i0 + 1)) : HpD l n i0 i0 :=
  ⟨Nat.le_refl _, fun c h0 hc hp hne => h c h0 hc (by omega), fun h => by omega⟩
/-- The first of a heap goes ahead of all, or with them. -/
theorem Hp.first {l : List Sn} {n : Nat} (h : Hp l n) : ∀ k, k < n → aheadC (nth l k) (nth l 0) = false := by
  intro k
  induction k using Nat.strongRecOn with
  | ind k ih =>
    intro hk
    by_cases h0 : k = 0
    · rw [h0]
      exact ahead_swo.irrefl _
    · have hp := par_lt (Nat.pos_of_ne_zero h0)
      exact ahead_swo.ntrans _ _ _ (h k (by omega) hk) (ih (par k) hp (by omega))
/-- A heap whose last one is taken to the first place. -/
theorem HpF.popped {l : List Sn} (h : Hp l l.length) : HpF (swL l 0 (l.length - 1)) (l.length - 1) 1 := by
  intro c h0 hc hp
  have hpl := par_lt h0
  have hs := nth_swL (l := l) (i := 0) (j := l.length - 1) (by omega) (by omega)
  rw [hs, hs, if_neg (by omega), if_neg (by omega), if_neg (by omega), if_neg (by omega)]
  exact h c h0 (by omega)
end Go.Proofs.Ytnjmohdfnicpdaa.Bus
