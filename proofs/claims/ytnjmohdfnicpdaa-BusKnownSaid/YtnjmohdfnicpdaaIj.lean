/- BusOnce's memory (filled by fill.py). -/
import Derived.Test.YtnjmohdfnicpdaaIi
namespace Go.Proofs.Ytnjmohdfnicpdaa.Bus
open Go.RowKit Go.Shelf Go.Lib Go.Sort Go.Proofs.Ytnjmohdfnicpdaa.Frm Go.Proofs.Ytnjmohdfnicpdaa.Rng Go.Proofs.YtnjmohdfnicpdaaW.PrintWords Go.Proofs.YtnjmohdfnicpdaaW.PrintMore Go.Proofs.YtnjmohdfnicpdaaW.PrintLast

/-- The bus, and the row of what has come, apart; all of them behind w0. -/
structure OnceX (w0 w : World) (g : Nat) (v6 : Value) (come al : List Sn) (N : Int) (v : Value) (l : List Sn) : Prop where
  bus : BusAt w g v l N
  hp : Hp l l.length
  once : Once al l N
  row : Kd.R kSn 35 w w0.heap.size (fun k => ¬ Mv g v k) v6 come
  far : ∀ k, Mv g v k → w0.heap.size ≤ k
  bel : Below w0.heap.size w0 w
def OnceM (w0 w : World) (g : Nat) (v6 : Value) (come : List Sn) (N : Int) : Prop := ∃ v l, OnceX w0 w g v6 come come N v l
theorem OnceX.llen {w0 w : World} {g : Nat} {v6 v : Value} {come al l : List Sn} {N : Int} (h : OnceX w0 w g v6 come al N v l) (hN : N ≤ 1000) : l.length ≤ 1000 ∧ al.length ≤ 1000 := by
  have := h.once.cnt
  omega
theorem row_turn {w w' : World} {base g : Nat} {v v' v6 : Value} {come : List Sn} (h : Kd.R kSn 35 w base (fun k => ¬ Mv g v k) v6 come) (ht : Turn g v v' w w') : Kd.R kSn 35 w' base (fun k => ¬ Mv g v' k) v6 come := by
  refine Kd.R_mono (Kd.R_step (Kd.R_bound h) (fun k hk hlt => ht.fr.block k hlt hk.1)) (fun k hk hm => ?_)
  rcases hm with hm | hm
  · exact hk.1 (.inl hm)
  · rcases ht.own k hm with h1 | h1
    · exact hk.1 (.inr h1)
    · have := hk.2.2.1
      omega
theorem OnceX.turn {w0 w w' : World} {g : Nat} {v6 v v' : Value} {come al al' l l' : List Sn} {N N' : Int} (h : OnceX w0 w g v6 come al N v l) (hb : BusAt w' g v' l' N') (hp : Hp l' l'.length) (ho : Once al' l' N') (ht : Turn g v v' w w') : OnceX w0 w' g v6 come al' N' v' l' := by
  have hsz := h.bel.size
  refine ⟨hb, hp, ho, row_turn h.row ht, fun k hk => ?_, h.bel.trans (ht.fr.below (fun k hk => ⟨by omega, fun hm => by have := h.far k hm; omega⟩))⟩
  rcases hk with hk | hk
  · exact h.far k (.inl hk)
  · rcases ht.own k hk with h1 | h1
    · exact h.far k (.inr h1)
    · omega
theorem OnceX.below {w0 w w' : World} {g : Nat} {v6 v : Value} {come al l : List Sn} {N : Int} (h : OnceX w0 w g v6 come al N v l) (hb : Below w.heap.size w w') : OnceX w0 w' g v6 come al N v l :=
  ⟨h.bus.fr (Fr.of_below (M := fun _ => False) hb) (fun h => h) (fun _ _ h => h), h.hp, h.once, Kd.R_below h.row hb, h.far, h.bel.trans (hb.mono h.bel.size)⟩
/-- A new row of what has come. -/
theorem OnceX.push {w0 w w' : World} {g : Nat} {v6 v7 v : Value} {come come' al l : List Sn} {N : Int} (h : OnceX w0 w g v6 come al N v l) (hr : Kd.R kSn 35 w' w0.heap.size (fun k => ¬ Mv g v k) v7 come') (hg : w.grownBy w' v6.ownBlock) (hb : Below w0.heap.size w0 w') : OnceX w0 w' g v7 come' al N v l := by
  refine ⟨h.bus.fr (Fr.of_grownBy (M := fun k => some k = v6.ownBlock) hg (fun k hk => .inl hk.symm)) (fun e => h.row.1 g e.symm (.inl rfl)) (fun k hk e => h.row.1 k e.symm (.inr hk)), h.hp, h.once, hr, h.far, hb⟩
/-- A row of frames, read. -/
def FrsAt (w : World) (A : Option Addr) (l : List Sn) : Prop := (0 < l.length → ∃ ad, A = some ad) ∧ ∀ k s, l[k]? = some s → ∀ ad, A = some ad → w.cell? (ad.add (k * 11)) = some (.int .u16 s.id) ∧ w.cell? ⟨(ad.add (k * 11)).block, (ad.add (k * 11)).off + 1, none⟩ = some (.int .i64 s.len) ∧ w.cell? ⟨(ad.add (k * 11)).block, (ad.add (k * 11)).off + 2, none⟩ = some (.int .u8 s.x0) ∧ w.cell? ⟨(ad.add (k * 11)).block, (ad.add (k * 11)).off + 3, none⟩ = some (.int .u8 s.x1) ∧ w.cell? ⟨(ad.add (k * 11)).block, (ad.add (k * 11)).off + 4, none⟩ = some (.int .u8 s.x2) ∧ w.cell? ⟨(ad.add (k * 11)).block, (ad.add (k * 11)).off + 5, none⟩ = some (.int .u8 s.x3) ∧ w.cell? ⟨(ad.add (k * 11)).block, (ad.add (k * 11)).off + 6, none⟩ = some (.int .u8 s.x4) ∧ w.cell? ⟨(ad.add (k * 11)).block, (ad.add (k * 11)).off + 7, none⟩ = some (.int .u8 s.x5) ∧ w.cell? ⟨(ad.add (k * 11)).block, (ad.add (k * 11)).off + 8, none⟩ = some (.int .u8 s.x6) ∧ w.cell? ⟨(ad.add (k * 11)).block, (ad.add (k * 11)).off + 9, none⟩ = some (.int .u8 s.x7) ∧ w.cell? ⟨(ad.add (k * 11)).block, (ad.add (k * 11)).off + 10, none⟩ = some (.bool s.rem)
theorem FrsAt.below {w Z : World} {A : Option Addr} {l : List Sn} (h : FrsAt w A l) (hZ : Below w.heap.size w Z) : FrsAt Z A l := by
  refine ⟨h.1, fun k s hk ad e => ?_⟩
  obtain ⟨c0, c1, c2, c3, c4, c5, c6, c7, c8, c9, c10⟩ := h.2 k s hk ad e
  exact ⟨pw_cell_below hZ c0, pw_cell_below hZ c1, pw_cell_below hZ c2, pw_cell_below hZ c3, pw_cell_below hZ c4, pw_cell_below hZ c5, pw_cell_below hZ c6, pw_cell_below hZ c7, pw_cell_below hZ c8, pw_cell_below hZ c9, pw_cell_below hZ c10⟩
/-- A row of numbers, read. -/
def IntsAt (w : World) (A : Option Addr) (l : List Int) : Prop := (0 < l.length → ∃ ad, A = some ad) ∧ ∀ k z, l[k]? = some z → ∀ ad, A = some ad → w.cell? (ad.add k) = some (.int .i64 z)
theorem IntsAt.below {w Z : World} {A : Option Addr} {l : List Int} (h : IntsAt w A l) (hZ : Below w.heap.size w Z) : IntsAt Z A l := ⟨h.1, fun k z hk ad e => pw_cell_below hZ (h.2 k z hk ad e)⟩
/-- How long a slice is. -/
def lenV : Value → Nat | .slice _ n _ => n | _ => 0
end Go.Proofs.Ytnjmohdfnicpdaa.Bus
