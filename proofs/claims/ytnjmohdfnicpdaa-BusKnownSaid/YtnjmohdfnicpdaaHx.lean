/- The bus and the document's bus in memory, side by side. -/
import Derived.Test.YtnjmohdfnicpdaaHw
namespace Go.Proofs.Ytnjmohdfnicpdaa.Bus
open Go.RowKit Go.Shelf Go.Lib Go.Sort Go.Proofs.Ytnjmohdfnicpdaa.Frm Go.Proofs.Ytnjmohdfnicpdaa.Rng Go.Proofs.YtnjmohdfnicpdaaW.PrintWords Go.Proofs.YtnjmohdfnicpdaaW.PrintMore Go.Proofs.YtnjmohdfnicpdaaW.PrintLast

/-- Both, with their blocks apart (all of them in S). -/
structure PairX (w : World) (S : Nat → Prop) (g gm : Nat) (v : Value) (l : List Sn) (A : Option Addr) (c : Nat) (L : List Sn) (N : Int) : Prop where
  bus : BusAt w g v l N
  hp : Hp l l.length
  pp : PairP l L N
  ref : RefAt w gm A c L N
  mv : ∀ k, Mv g v k → S k ∧ k ≠ gm
  sm : S gm
  row : 0 < L.length → ∀ ad, A = some ad → S ad.block ∧ ¬ Mv g v ad.block
  cap : L.length ≤ 512
  lt : ∀ k, S k → k < w.heap.size
def PairW (w : World) (S : Nat → Prop) (g gm : Nat) (L : List Sn) (N : Int) : Prop := ∃ v l A c, PairX w S g gm v l A c L N
theorem PairX.fr {M : Nat → Prop} {w W : World} {S : Nat → Prop} {g gm c : Nat} {v : Value} {l L : List Sn} {A : Option Addr} {N : Int} (h : PairX w S g gm v l A c L N) (hf : Fr M w W) (hM : ∀ k, S k → ¬ M k) : PairX W S g gm v l A c L N where
  bus := h.bus.fr hf (hM g (h.mv g (.inl rfl)).1) (fun k hk => hM k (h.mv k (.inr hk)).1)
  hp := h.hp
  pp := h.pp
  ref := h.ref.fr hf (hM gm h.sm) (fun h0 ad e => hM _ (h.row h0 ad e).1)
  mv := h.mv
  sm := h.sm
  row := h.row
  cap := h.cap
  lt := fun k hk => Nat.lt_of_lt_of_le (h.lt k hk) hf.size
theorem PairW.fr {M : Nat → Prop} {w W : World} {S : Nat → Prop} {g gm : Nat} {L : List Sn} {N : Int} (h : PairW w S g gm L N) (hf : Fr M w W) (hM : ∀ k, S k → ¬ M k) : PairW W S g gm L N := by
  obtain ⟨v, l, A, c, h⟩ := h
  exact ⟨v, l, A, c, h.fr hf hM⟩
theorem PairX.below {w W : World} {S : Nat → Prop} {g gm c : Nat} {v : Value} {l L : List Sn} {A : Option Addr} {N : Int} (h : PairX w S g gm v l A c L N) (hf : Below w.heap.size w W) : PairX W S g gm v l A c L N := h.fr (Fr.of_below (M := fun _ => False) hf) (fun _ _ h => h)
theorem PairX.len {w : World} {S : Nat → Prop} {g gm c : Nat} {v : Value} {l L : List Sn} {A : Option Addr} {N : Int} (h : PairX w S g gm v l A c L N) : l.length = L.length := h.pp.len
theorem PairX.llen {w : World} {S : Nat → Prop} {g gm c : Nat} {v : Value} {l L : List Sn} {A : Option Addr} {N : Int} (h : PairX w S g gm v l A c L N) : l.length ≤ 100000 := by rw [h.len]; have := h.cap; omega
/-- What a call turns of both. -/
structure PTurn (S S' : Nat → Prop) (w w' : World) : Prop where
  fr : Fr S w w'
  own : ∀ k, S' k → S k ∨ w.heap.size ≤ k
theorem PTurn.refl (S : Nat → Prop) (w : World) : PTurn S S w w := ⟨Fr.refl _ _, fun _ h => .inl h⟩
theorem PTurn.below {S : Nat → Prop} {w w' : World} (h : Below w.heap.size w w') : PTurn S S w w' := ⟨Fr.of_below h, fun _ h => .inl h⟩
theorem PTurn.trans {S S1 S2 : Nat → Prop} {a b c : World} (h : PTurn S S1 a b) (k : PTurn S1 S2 b c) : PTurn S S2 a c := by
  refine ⟨h.fr.then_ k.fr (fun i hi hm => ?_), fun j hj => ?_⟩
  · rcases h.own i hm with h2 | h2
    · exact h2
    · omega
  · rcases k.own j hj with h2 | h2
    · exact h.own j h2
    · have := h.fr.size
      exact .inr (by omega)
/-- A step of both: the bus's call, then the document's. -/
theorem PairX.step {w w1 w2 : World} {S : Nat → Prop} {g gm c c2 : Nat} {v v1 : Value} {l l1 L L2 : List Sn} {A A2 : Option Addr} {N N2 : Int} (h : PairX w S g gm v l A c L N)
    (hb : BusAt w1 g v1 l1 N2) (hp : Hp l1 l1.length) (ht : Turn g v v1 w w1) (hr : RefAt w2 gm A2 c2 L2 N2) (hf : Fr (fun k => k = gm) w1 w2)
    (hA : ∀ ad', A2 = some ad' → 0 < L2.length → (0 < L.length ∧ ∃ ad, A = some ad ∧ ad.block = ad'.block) ∨ w1.heap.size ≤ ad'.block) (hq : PairP l1 L2 N2) (hc : L2.length ≤ 512) :
    PairX w2 (fun k => S k ∨ (w.heap.size ≤ k ∧ k < w2.heap.size)) g gm v1 l1 A2 c2 L2 N2 ∧ PTurn S (fun k => S k ∨ (w.heap.size ≤ k ∧ k < w2.heap.size)) w w2 := by
  have hs1 := ht.fr.size
  have hs2 := hf.size
  have hg := h.mv g (.inl rfl)
  have hgl := h.lt g hg.1
  have hml := h.lt gm h.sm
  have hv1 : ∀ k, v1.ownBlock = some k → k ≠ gm ∧ (S k ∨ w.heap.size ≤ k) ∧ k < w1.heap.size := fun k hk => by
    refine ⟨?_, ?_, hb.vlt k hk⟩
    · rcases ht.own k hk with h1 | h1
      · exact (h.mv k (.inr h1)).2
      · omega
    · rcases ht.own k hk with h1 | h1
      · exact .inl (h.mv k (.inr h1)).1
      · exact .inr h1
  refine ⟨⟨hb.fr hf hg.2 (fun k hk => (hv1 k hk).1), hp, hq, hr, fun k hk => ?_, .inl h.sm, fun h0 ad e => ?_, hc, fun k hk => ?_⟩, ⟨?_, fun k hk => ?_⟩⟩
  · rcases hk with rfl | hk
    · exact ⟨.inl hg.1, hg.2⟩
    · obtain ⟨h1, h2, h3⟩ := hv1 k hk
      exact ⟨h2.imp id (fun h4 => ⟨h4, by omega⟩), h1⟩
  · rcases hA ad e h0 with ⟨h1, ad0, e0, h2⟩ | h1
    · obtain ⟨h3, h4⟩ := h.row h1 ad0 e0
      rw [h2] at h3 h4
      refine ⟨.inl h3, fun hm => ?_⟩
      rcases hm with hm | hm
      · exact h4 (.inl hm)
      · rcases ht.own _ hm with h5 | h5
        · exact h4 (.inr h5)
        · have := h.lt _ h3
          omega
    · have h2 : ad.block < w2.heap.size := by
        obtain ⟨b, o, e2, hc2⟩ := hr.cells (i := 0) h0
        rw [e2] at e
        cases e
        exact World.block_lt_of_cell? w2 _ hc2.1
      refine ⟨.inr ⟨by omega, h2⟩, fun hm => ?_⟩
      rcases hm with hm | hm
      · omega
      · have := hb.vlt _ hm
        omega
  · rcases hk with hk | hk
    · have := h.lt k hk
      omega
    · exact hk.2
  · exact (ht.fr.mono (fun k hk => (h.mv k hk).1)).then_ hf (fun i _ hm => by
      have h3 : i = gm := hm
      rw [h3]
      exact h.sm)
  · exact hk.imp id (fun h4 => h4.1)
end Go.Proofs.Ytnjmohdfnicpdaa.Bus
