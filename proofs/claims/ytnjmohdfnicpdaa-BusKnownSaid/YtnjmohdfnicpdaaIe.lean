/- The walk over BusPlays (filled by fill.py). -/
import Derived.Test.YtnjmohdfnicpdaaId
namespace Go.Proofs.Ytnjmohdfnicpdaa.Bus
open Go.RowKit Go.Shelf Go.Lib Go.Sort Go.Proofs.Ytnjmohdfnicpdaa.Frm Go.Proofs.Ytnjmohdfnicpdaa.Rng Go.Proofs.YtnjmohdfnicpdaaW.PrintWords Go.Proofs.YtnjmohdfnicpdaaW.PrintMore Go.Proofs.YtnjmohdfnicpdaaW.PrintLast

/-- A row of calls, read. -/
def StsAt (w : World) (A : Option Addr) (l : List Stp) : Prop := (0 < l.length → ∃ ad, A = some ad) ∧ ∀ k s, l[k]? = some s → ∀ ad, A = some ad → w.cell? (ad.add (k * 14)) = some (.int .i64 s.kd) ∧ w.cell? ⟨(ad.add (k * 14)).block, (ad.add (k * 14)).off + 1, none⟩ = some (.int .i64 s.x.nd) ∧ w.cell? ⟨(ad.add (k * 14)).block, (ad.add (k * 14)).off + 2, none⟩ = some (.int .u16 s.x.id) ∧ w.cell? ⟨(ad.add (k * 14)).block, (ad.add (k * 14)).off + 3, none⟩ = some (.int .i64 s.x.len) ∧ w.cell? ⟨(ad.add (k * 14)).block, (ad.add (k * 14)).off + 4, none⟩ = some (.int .u8 s.x.x0) ∧ w.cell? ⟨(ad.add (k * 14)).block, (ad.add (k * 14)).off + 5, none⟩ = some (.int .u8 s.x.x1) ∧ w.cell? ⟨(ad.add (k * 14)).block, (ad.add (k * 14)).off + 6, none⟩ = some (.int .u8 s.x.x2) ∧ w.cell? ⟨(ad.add (k * 14)).block, (ad.add (k * 14)).off + 7, none⟩ = some (.int .u8 s.x.x3) ∧ w.cell? ⟨(ad.add (k * 14)).block, (ad.add (k * 14)).off + 8, none⟩ = some (.int .u8 s.x.x4) ∧ w.cell? ⟨(ad.add (k * 14)).block, (ad.add (k * 14)).off + 9, none⟩ = some (.int .u8 s.x.x5) ∧ w.cell? ⟨(ad.add (k * 14)).block, (ad.add (k * 14)).off + 10, none⟩ = some (.int .u8 s.x.x6) ∧ w.cell? ⟨(ad.add (k * 14)).block, (ad.add (k * 14)).off + 11, none⟩ = some (.int .u8 s.x.x7) ∧ w.cell? ⟨(ad.add (k * 14)).block, (ad.add (k * 14)).off + 12, none⟩ = some (.bool s.x.rem) ∧ w.cell? ⟨(ad.add (k * 14)).block, (ad.add (k * 14)).off + 13, none⟩ = some (.int .i64 s.tm)
theorem StsAt.below {w Z : World} {A : Option Addr} {l : List Stp} (h : StsAt w A l) (hZ : Below w.heap.size w Z) : StsAt Z A l := by
  refine ⟨h.1, fun k s hk ad e => ?_⟩
  obtain ⟨c0, c1, c2, c3, c4, c5, c6, c7, c8, c9, c10, c11, c12, c13⟩ := h.2 k s hk ad e
  exact ⟨pw_cell_below hZ c0, pw_cell_below hZ c1, pw_cell_below hZ c2, pw_cell_below hZ c3, pw_cell_below hZ c4, pw_cell_below hZ c5, pw_cell_below hZ c6, pw_cell_below hZ c7, pw_cell_below hZ c8, pw_cell_below hZ c9, pw_cell_below hZ c10, pw_cell_below hZ c11, pw_cell_below hZ c12, pw_cell_below hZ c13⟩
/-- A new bus and a new one of the document's. -/
theorem new_pair {w w1 : World} (h1 : BusAt w1 w.heap.size (.slice none 0 0) [] 0) (hb : Below w.heap.size w w1) (hlt : w.heap.size < w1.heap.size) :
    PairX (w1.alloc (.cells #[.slice none 0 0, .int .i64 0] 49)) (fun k => w.heap.size ≤ k ∧ k ≤ w1.heap.size) w.heap.size w1.heap.size (.slice none 0 0) [] none 0 [] 0 := by
  have hal := below_alloc (Below.refl w1.heap.size w1) (.cells #[.slice none 0 0, .int .i64 0] 49)
  refine ⟨h1.fr (Fr.of_below (M := fun _ => False) hal) (fun h => h) (fun _ _ h => h), fun c _ h => absurd h (Nat.not_lt_zero _), PairP.nil, ⟨heap_alloc_new w1 _, Nat.le_refl _, ⟨rfl, Nat.zero_le _, fun h => absurd h (Nat.lt_irrefl 0)⟩, fun h => absurd h (Nat.lt_irrefl 0), fun ad e => by cases e⟩, fun k hk => ?_, ⟨hb.size, Nat.le_refl _⟩, fun h => absurd h (Nat.lt_irrefl 0), by decide, fun k hk => ?_⟩
  · rcases hk with rfl | hk
    · exact ⟨⟨Nat.le_refl _, by omega⟩, by omega⟩
    · cases hk
  · rw [World.size_alloc]
    omega
/-- Copies of both. -/
theorem copy_pair {w w1 w2 : World} {S : Nat → Prop} {g gm c g' gm' c' : Nat} {v v' : Value} {l L : List Sn} {A A' : Option Addr} {N : Int} (h : PairX w S g gm v l A c L N)
    (hb : BusAt w1 g' v' l N) (hw1 : Below w.heap.size w w1) (hg : w.heap.size ≤ g') (hv : ∀ k, v'.ownBlock = some k → w.heap.size ≤ k) (hr : RefAt w2 gm' A' c' L N) (hw2 : Below w1.heap.size w1 w2) (hgm : w1.heap.size ≤ gm') (hA : ∀ ad, A' = some ad → w1.heap.size ≤ ad.block) :
    PairX w2 (fun k => w.heap.size ≤ k ∧ k < w2.heap.size) g' gm' v' l A' c' L N := by
  have hs1 := hw1.size
  have hs2 := hw2.size
  have hgl := hb.lt
  refine ⟨hb.fr (Fr.of_below (M := fun _ => False) hw2) (fun h => h) (fun _ _ h => h), h.hp, h.pp, hr, fun k hk => ?_, ⟨by omega, hr.lt⟩, fun h0 ad e => ?_, h.cap, fun k hk => hk.2⟩
  · rcases hk with rfl | hk
    · exact ⟨⟨hg, by omega⟩, by omega⟩
    · have := hb.vlt k hk
      exact ⟨⟨hv k hk, by omega⟩, by omega⟩
  · have h1 := hA ad e
    have h2 : ad.block < w2.heap.size := by
      obtain ⟨b, o, e2, hc2⟩ := hr.cells (i := 0) h0
      rw [e2] at e
      cases e
      exact World.block_lt_of_cell? w2 _ hc2.1
    refine ⟨⟨by omega, h2⟩, fun hm => ?_⟩
    rcases hm with hm | hm
    · omega
    · have := hb.vlt _ hm
      omega
/-- What is left, and what is kept of it. -/
def Left (w : World) (B : Nat) (S : Nat → Prop) (g gm g2 gm2 : Nat) : Prop := (g2 = g ∧ gm2 = gm) ∨ ∃ S2 L2 N2, PairW w S2 g2 gm2 L2 N2 ∧ (∀ k, S2 k → ¬ S k) ∧ ∀ k, S2 k → B ≤ k
theorem Left.turn {w w' : World} {B : Nat} {S S' : Nat → Prop} {g gm g2 gm2 : Nat} (h : Left w B S g gm g2 gm2) (ht : PTurn S S' w w') : Left w' B S' g gm g2 gm2 := by
  rcases h with h | ⟨S2, L2, N2, h1, h2, h3⟩
  · exact .inl h
  · refine .inr ⟨S2, L2, N2, h1.fr ht.fr h2, fun k hk hk' => ?_, h3⟩
    rcases ht.own k hk' with h4 | h4
    · exact h2 k hk h4
    · obtain ⟨_, _, _, _, hx⟩ := h1
      have := hx.lt k hk
      omega
theorem PTurn.far {S S' : Nat → Prop} {w0 w w' : World} (ht : PTurn S S' w w') (hw : Below w0.heap.size w0 w) (hS : ∀ k, S k → w0.heap.size ≤ k) : Below w0.heap.size w0 w' ∧ ∀ k, S' k → w0.heap.size ≤ k := by
  have hsz := hw.size
  refine ⟨hw.trans (ht.fr.below (fun k hk => ⟨by omega, fun hm => by have := hS k hm; omega⟩)), fun k hk => ?_⟩
  rcases ht.own k hk with h | h
  · exact hS k h
  · omega
end Go.Proofs.Ytnjmohdfnicpdaa.Bus
