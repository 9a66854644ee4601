/- One of a bus's frames is written anew. -/
import Derived.Test.YtnjmohdfnicpdaaHb
import Derived.Deep.RegionHeld3
import Derived.Deep.MidRow
namespace Go.Proofs.Ytnjmohdfnicpdaa.Bus
open Go.RowKit Go.Shelf Go.Lib Go.Sort Go.Proofs.Ytnjmohdfnicpdaa.Frm Go.Proofs.Ytnjmohdfnicpdaa.Rng Go.Proofs.YtnjmohdfnicpdaaW.PrintWords Go.Proofs.YtnjmohdfnicpdaaW.PrintMore Go.Proofs.YtnjmohdfnicpdaaW.PrintLast

theorem putAt_size : ∀ (vs : List Value) (o : Nat) (cs : Array Value), (putAt cs o vs).size = cs.size
  | [], _, _ => rfl
  | v :: r, o, cs => (putAt_size r (o + 1) _).trans (by simp)
theorem putAt_get : ∀ (vs : List Value) (o : Nat) (cs : Array Value) (t : Nat), o + vs.length ≤ cs.size → (putAt cs o vs)[t]? = if o ≤ t ∧ t < o + vs.length then vs[t - o]? else cs[t]?
  | [], o, cs, t, _ => by rw [if_neg (by simp)]; rfl
  | v :: r, o, cs, t, h => by
    simp only [List.length_cons] at h
    show (putAt (cs.setIfInBounds o v) (o + 1) r)[t]? = _
    rw [putAt_get r (o + 1) _ t (by simp; omega)]
    by_cases h1 : o + 1 ≤ t ∧ t < o + 1 + r.length
    · rw [if_pos h1, if_pos (by simp; omega)]
      obtain ⟨u, rfl⟩ : ∃ u, t = o + 1 + u := ⟨t - (o + 1), by omega⟩
      rw [show o + 1 + u - (o + 1) = u by omega, show o + 1 + u - o = u + 1 by omega]
      rfl
    · rw [if_neg h1]
      by_cases h2 : t = o
      · subst h2
        rw [if_pos (by simp), Array.getElem?_setIfInBounds_self_of_lt (by omega)]
        simp
      · rw [if_neg (by simp; omega), Array.getElem?_setIfInBounds_ne (by omega)]
theorem fr_setCells (gb : Nat) : ∀ (vs : List Value) (o : Nat) (w : World), Fr (fun k => k = gb) w (w.setCells gb o vs)
  | [], _, w => Fr.refl _ w
  | v :: r, o, w => (Fr.setCell (M := fun k => k = gb) w ⟨gb, o, none⟩ v (Or.inl rfl)).trans (fr_setCells gb r (o + 1) _)
/-- One of them is written anew. -/
theorem BusAt.set {w : World} {g gb m c : Nat} {l : List Sn} {N : Int} (h : BusAt w g (.slice (some ⟨gb, 0, none⟩) m c) l N) {i : Nat} (hi : i < l.length) (x : Sn) : BusAt (w.setCells gb (i * 13) x.cells) g (.slice (some ⟨gb, 0, none⟩) m c) (l.set i x) N := by
  obtain ⟨hblk, hok, inner, ⟨hil0, ho⟩, hr⟩ := h
  have hil : inner.length = l.length * 13 := hil0
  rcases ho with ⟨_, h0⟩ | ⟨gb', c', cur, he, hb0, hb, hlc, hmx, hsz0, htake0⟩
  · omega
  · have hsz : cur.size = c' * 13 := hsz0
    have htake : cur.toList.take (l.length * 13) = inner := htake0
    clear hsz0 htake0 hil0
    obtain ⟨rfl, rfl, rfl⟩ : gb = gb' ∧ m = l.length ∧ c = c' := by
      simp at he
      exact he
    have hne : gb ≠ g := hok gb rfl
    have h13 : i * 13 + 13 ≤ cur.size := by rw [hsz]; omega
    have hw := heap_setCells x.cells (i * 13) w cur hb
    have hget := fun t => putAt_get x.cells (i * 13) cur t (by rw [Sn.cells_len]; exact h13)
    have hsz2 : (putAt cur (i * 13) x.cells).size = c * 13 := by rw [putAt_size]; exact hsz
    have hlen2 : ((putAt cur (i * 13) x.cells).toList.take ((l.set i x).length * 13)).length = (l.set i x).length * 13 := by
      rw [List.length_take, show (putAt cur (i * 13) x.cells).toList.length = c * 13 from hsz2, List.length_set]
      omega
    refine ⟨((fr_setCells gb x.cells (i * 13) w).block g (Array.getElem?_eq_some_iff.1 hblk).1 (by omega)).trans hblk, hok, (putAt cur (i * 13) x.cells).toList.take ((l.set i x).length * 13), ⟨hlen2, .inr ⟨gb, c, _, by rw [List.length_set], hb0, hw, by rw [List.length_set]; exact hlc, hmx, hsz2, rfl⟩⟩, hlen2, fun j p hj => ?_⟩
    have hjl : j < l.length := by
      have := (List.getElem?_eq_some_iff.1 hj).1
      simpa using this
    show ((List.take _ _).drop (j * 13)).take 13 = p.cells
    apply List.ext_getElem?
    intro t
    by_cases ht : t < 13
    · rw [List.getElem?_take, if_pos ht, List.getElem?_drop, List.getElem?_take, if_pos (by rw [List.length_set]; omega), Array.getElem?_toList, hget, Sn.cells_len]
      by_cases hji : j = i
      · subst hji
        rw [if_pos (by omega), show j * 13 + t - j * 13 = t by omega]
        rw [List.getElem?_set_self hi] at hj
        cases hj
        rfl
      · rw [if_neg (by omega)]
        rw [List.getElem?_set_ne (by omega)] at hj
        have h2 : (inner.drop (j * 13)).take 13 = p.cells := hr.2 j p hj
        rw [← h2, List.getElem?_take, if_pos ht, List.getElem?_drop, ← htake, List.getElem?_take, if_pos (by omega), Array.getElem?_toList]
    · rw [List.getElem?_take, if_neg ht, List.getElem?_eq_none (by rw [Sn.cells_len]; omega)]
theorem BusAt.there {w : World} {g gb c m : Nat} {l : List Sn} {N : Int} (h : BusAt w g (.slice (some ⟨gb, 0, none⟩) m c) l N) {i : Nat} (hi : i < l.length) : w.there gb (i * 13) 13 := by
  obtain ⟨gb', c', cur, he, _, hb, hlc, hsz, _⟩ := h.own (by omega)
  obtain rfl : gb = gb' := by
    simp at he
    exact he.1
  intro j hj
  refine ⟨?_, blk_frozen hb _⟩
  rw [blk_cell hb, Option.isSome_iff_exists]
  exact ⟨_, Array.getElem?_eq_getElem (by omega)⟩
theorem BusAt.drew {w : World} {g : Nat} {v : Value} {l : List Sn} {N : Int} (h : BusAt w g v l N) : BusAt w.drew g v l N := h.fr (Fr.drew (fun _ => False) w) (fun h => h) (fun _ _ h => h)
theorem size_sn : (Try.prog.info? 35).map (·.size) = some 13 := by kernel_rfl
end Go.Proofs.Ytnjmohdfnicpdaa.Bus
