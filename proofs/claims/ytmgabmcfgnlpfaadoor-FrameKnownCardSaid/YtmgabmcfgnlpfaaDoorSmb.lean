/- sameBytes; what Make, Ask, Write, Data tell, each by one relation. -/
import Derived.Test.YtmgabmcfgnlpfaaDoorDat
import Derived.Test.YtmgabmcfgnlpfaaDoorFrl
namespace Go.Proofs.YtmgabmcfgnlpfaaDoor.Frm
open Go.RowKit Go.Proofs.YtmgabmcfgnlpfaaDoorW.PrintWords Go.Proofs.YtmgabmcfgnlpfaaDoorW.PrintMore Go.Proofs.YtmgabmcfgnlpfaaDoorW.PrintLast

theorem str_at {w : World} {A : Option Addr} {n c : Nat} {zs : List Int} (h : kB.C w A n zs) (X : World) (hb : Below w.heap.size w X) : (convert 36 9 (.slice A n c)).run Tryd.prog X = .ok (.string (strOfNums zs)) X :=
  Kd.C_string (P := Tryd.prog) Tryd.underlying36 Tryd.underlying5 Tryd.underlying9 (Kd.C_below h hb)
set_option maxHeartbeats 1000000 in
set_option maxRecDepth 100000 in
theorem same_any (A1 A2 : Option Addr) (c1 c2 : Nat) (zs : List Int) (w : World) (h1 : kB.C w A1 zs.length zs) (h2 : kB.C w A2 zs.length zs) :
    Calls Tryd.prog 18 #[.slice A1 zs.length c1, .slice A2 zs.length c2] w fun e w' => e = .returned (.bool true) ∧ w' = w := by
  have e1 := str_at (c := c1) h1 w (Below.refl _ _)
  have e2 := str_at (c := c2) h2 w (Below.refl _ _)
  obtain ⟨s, hs⟩ : ∃ s, strOfNums zs = s := ⟨_, rfl⟩
  rw [hs] at e1 e2
  have hq : (s.toList == s.toList) = true := beq_self_eq_true _
  clear h1 h2 hs
  go_enter Tryd.func18, Tryd.ntmps18
  go_wp2
  go_ret
  exact ⟨rfl, rfl⟩
/-- What Make tells. -/
def MkOf (i : Int) (zs : List Int) (f : Fm) (k : Int) : Prop := (mkOk i zs ∧ f = mkF i zs ∧ k = 0) ∨ (¬ mkOk i zs ∧ f = fm0 ∧ k = 2)
theorem mk_one {i : Int} {zs : List Int} {f g : Fm} {k m : Int} (h : MkOf i zs f k) (h' : MkOf i zs g m) : g = f ∧ m = k := by
  rcases h with ⟨a, b, c⟩ | ⟨a, b, c⟩ <;> rcases h' with ⟨a', b', c'⟩ | ⟨a', b', c'⟩
  · exact ⟨b'.trans b.symm, c'.trans c.symm⟩
  · exact absurd a a'
  · exact absurd a' a
  · exact ⟨b'.trans b.symm, c'.trans c.symm⟩
theorem mk_wf {i : Int} {zs : List Int} {f : Fm} {k : Int} (h : MkOf i zs f k) (hi : 0 ≤ i) (hz : ∀ x ∈ zs, 0 ≤ x ∧ x < 256) : Wf f := by
  rcases h with ⟨a, rfl, _⟩ | ⟨_, rfl, _⟩
  · refine ⟨by have := a.2; simp [mkF]; omega, ?_, hi⟩
    intro x hx
    simp only [mkF, List.mem_append] at hx
    rcases hx with h | h
    · exact hz x h
    · have := List.eq_of_mem_replicate h
      omega
  · exact ⟨rfl, by decide, by decide⟩
theorem fmake_of (i : Int) (A : Option Addr) (c : Nat) (zs : List Int) (w : World) (hr : Rd w A zs) (hi : 0 ≤ i) (hz : ∀ x ∈ zs, 0 ≤ x ∧ x < 256) :
    Calls Tryd.prog 14 #[.int .u16 i, .slice A zs.length c] w fun e w' => ∃ (j n x0 x1 x2 x3 x4 x5 x6 x7 : Int) (b : Bool) (k : Int), e = .returned (.tuple #[.agg #[.int .u16 j, .int .i64 n, .int .u8 x0, .int .u8 x1, .int .u8 x2, .int .u8 x3, .int .u8 x4, .int .u8 x5, .int .u8 x6, .int .u8 x7, .bool b], .int .i64 k]) ∧ MkOf i zs ⟨j, n, [x0, x1, x2, x3, x4, x5, x6, x7], b⟩ k ∧ Below w.heap.size w w' := by
  refine (fmake_any i A c zs w hr).mono ?_
  rintro e w' ⟨h, hb⟩
  obtain ⟨f, k, he, hm⟩ : ∃ f k, e = .returned (.tuple #[.agg (Fm.cells f), .int .i64 k]) ∧ MkOf i zs f k := by
    rcases h with ⟨h, rfl⟩ | ⟨h, rfl⟩
    · exact ⟨_, _, rfl, .inl ⟨h, rfl, rfl⟩⟩
    · exact ⟨_, _, rfl, .inr ⟨h, rfl, rfl⟩⟩
  obtain ⟨j, n, d, b⟩ := f
  obtain ⟨x0, x1, x2, x3, x4, x5, x6, x7, rfl⟩ := eight (mk_wf hm hi hz).dl
  exact ⟨j, n, x0, x1, x2, x3, x4, x5, x6, x7, b, k, he, hm, hb⟩
theorem rmake_of (i : Int) (A : Option Addr) (c : Nat) (zs : List Int) (f : Fm) (k : Int) (hm : MkOf i zs f k) (w : World) (hr : Rd w A zs) :
    Calls Tryd.prog 15 #[.int .u16 i, .slice A zs.length c] w fun e w' => e = .returned (.tuple #[.agg (Fm.cells f), .int .i64 k]) ∧ Below w.heap.size w w' := by
  refine (rmake_any i A c zs w hr).mono ?_
  rintro e w' ⟨h, hb⟩
  rcases h with ⟨h, rfl⟩ | ⟨h, rfl⟩
  · obtain ⟨rfl, rfl⟩ := mk_one (.inl ⟨h, rfl, rfl⟩) hm
    exact ⟨rfl, hb⟩
  · obtain ⟨rfl, rfl⟩ := mk_one (.inr ⟨h, rfl, rfl⟩) hm
    exact ⟨rfl, hb⟩
/-- What Ask tells. -/
def AskOf (i n : Int) (f : Fm) (k : Int) : Prop := (askOk i n ∧ f = ⟨i, n, [0, 0, 0, 0, 0, 0, 0, 0], true⟩ ∧ k = 0) ∨ (¬ askOk i n ∧ f = fm0 ∧ k = 2)
theorem ask_one {i n : Int} {f g : Fm} {k m : Int} (h : AskOf i n f k) (h' : AskOf i n g m) : g = f ∧ m = k := by
  rcases h with ⟨a, b, c⟩ | ⟨a, b, c⟩ <;> rcases h' with ⟨a', b', c'⟩ | ⟨a', b', c'⟩
  · exact ⟨b'.trans b.symm, c'.trans c.symm⟩
  · exact absurd a a'
  · exact absurd a' a
  · exact ⟨b'.trans b.symm, c'.trans c.symm⟩
theorem ask_wf {i n : Int} {f : Fm} {k : Int} (h : AskOf i n f k) (hi : 0 ≤ i) : Wf f := by
  rcases h with ⟨a, rfl, _⟩ | ⟨_, rfl, _⟩
  · exact ⟨rfl, by simp, hi⟩
  · exact ⟨rfl, by decide, by decide⟩
theorem fask_of (i m : Int) (w : World) (hi : 0 ≤ i) :
    Calls Tryd.prog 16 #[.int .u16 i, .int .i64 m] w fun e w' => ∃ (j n x0 x1 x2 x3 x4 x5 x6 x7 : Int) (b : Bool) (k : Int), e = .returned (.tuple #[.agg #[.int .u16 j, .int .i64 n, .int .u8 x0, .int .u8 x1, .int .u8 x2, .int .u8 x3, .int .u8 x4, .int .u8 x5, .int .u8 x6, .int .u8 x7, .bool b], .int .i64 k]) ∧ AskOf i m ⟨j, n, [x0, x1, x2, x3, x4, x5, x6, x7], b⟩ k ∧ Below w.heap.size w w' := by
  refine (fask_any i m w).mono ?_
  rintro e w' ⟨h, hb⟩
  obtain ⟨f, k, he, hm⟩ : ∃ f k, e = .returned (.tuple #[.agg (Fm.cells f), .int .i64 k]) ∧ AskOf i m f k := by
    rcases h with ⟨h, rfl⟩ | ⟨h, rfl⟩
    · exact ⟨_, _, rfl, .inl ⟨h, rfl, rfl⟩⟩
    · exact ⟨_, _, rfl, .inr ⟨h, rfl, rfl⟩⟩
  obtain ⟨j, n, d, b⟩ := f
  obtain ⟨x0, x1, x2, x3, x4, x5, x6, x7, rfl⟩ := eight (ask_wf hm hi).dl
  exact ⟨j, n, x0, x1, x2, x3, x4, x5, x6, x7, b, k, he, hm, hb⟩
theorem rask_of (i n : Int) (f : Fm) (k : Int) (hm : AskOf i n f k) (w : World) :
    Calls Tryd.prog 17 #[.int .u16 i, .int .i64 n] w fun e w' => e = .returned (.tuple #[.agg (Fm.cells f), .int .i64 k]) ∧ Below w.heap.size w w' := by
  refine (rask_any i n w).mono ?_
  rintro e w' ⟨h, hb⟩
  rcases h with ⟨h, rfl⟩ | ⟨h, rfl⟩
  · obtain ⟨rfl, rfl⟩ := ask_one (.inl ⟨h, rfl, rfl⟩) hm
    exact ⟨rfl, hb⟩
  · obtain ⟨rfl, rfl⟩ := ask_one (.inr ⟨h, rfl, rfl⟩) hm
    exact ⟨rfl, hb⟩
/-- What Write tells of a frame. -/
def WrOf (f : Fm) (t : ByteArray) (k : Int) : Prop := (Rt f ∧ t = strOf (wrF f) ∧ k = 0) ∨ (¬ Rt f ∧ t = strOf [] ∧ k = 30)
theorem fwrite_of (ix nx x0 x1 x2 x3 x4 x5 x6 x7 : Int) (qx : Bool) (w : World) (hw : Wf ⟨ix, nx, [x0, x1, x2, x3, x4, x5, x6, x7], qx⟩) :
    Calls Tryd.prog 10 #[.agg #[.int .u16 ix, .int .i64 nx, .int .u8 x0, .int .u8 x1, .int .u8 x2, .int .u8 x3, .int .u8 x4, .int .u8 x5, .int .u8 x6, .int .u8 x7, .bool qx]] w fun e w' => ∃ t k, e = .returned (.tuple #[.string t, .int .i64 k]) ∧ WrOf ⟨ix, nx, [x0, x1, x2, x3, x4, x5, x6, x7], qx⟩ t k ∧ Below w.heap.size w w' := by
  refine (fwrite_any ix nx x0 x1 x2 x3 x4 x5 x6 x7 qx w hw).mono ?_
  rintro e w' ⟨(⟨h, rfl⟩ | ⟨h, rfl⟩), hb⟩
  · exact ⟨_, _, rfl, .inl ⟨h, rfl, rfl⟩, hb⟩
  · exact ⟨_, _, rfl, .inr ⟨h, rfl, rfl⟩, hb⟩
theorem wr_size {f : Fm} {t : ByteArray} {k : Int} (hw : Wf f) (h : WrOf f t k) : t.size ≤ 20 := by
  rcases h with ⟨h, rfl, _⟩ | ⟨_, rfl, _⟩
  · rw [str_size]
    exact (guess_of hw h).2.2
  · simp [strOf, ByteArray.size]
theorem held11 {W : World} {g : Nat} {t : TypeId} {i n x0 x1 x2 x3 x4 x5 x6 x7 : Int} {b : Bool} (h : W.heap[g]? = some (.cells #[.int .u16 i, .int .i64 n, .int .u8 x0, .int .u8 x1, .int .u8 x2, .int .u8 x3, .int .u8 x4, .int .u8 x5, .int .u8 x6, .int .u8 x7, .bool b] t (0, 0))) :
    (∀ X, Below W.heap.size W X → X.cell? ⟨g, 0, none⟩ = some (.int .u16 i)) ∧ (∀ X, Below W.heap.size W X → X.cell? ⟨g, 1, none⟩ = some (.int .i64 n)) ∧ (∀ X, Below W.heap.size W X → X.cell? ⟨g, 2, none⟩ = some (.int .u8 x0)) ∧ (∀ X, Below W.heap.size W X → X.cell? ⟨g, 3, none⟩ = some (.int .u8 x1)) ∧ (∀ X, Below W.heap.size W X → X.cell? ⟨g, 4, none⟩ = some (.int .u8 x2)) ∧ (∀ X, Below W.heap.size W X → X.cell? ⟨g, 5, none⟩ = some (.int .u8 x3)) ∧ (∀ X, Below W.heap.size W X → X.cell? ⟨g, 6, none⟩ = some (.int .u8 x4)) ∧ (∀ X, Below W.heap.size W X → X.cell? ⟨g, 7, none⟩ = some (.int .u8 x5)) ∧ (∀ X, Below W.heap.size W X → X.cell? ⟨g, 8, none⟩ = some (.int .u8 x6)) ∧ (∀ X, Below W.heap.size W X → X.cell? ⟨g, 9, none⟩ = some (.int .u8 x7)) ∧ (∀ X, Below W.heap.size W X → X.cell? ⟨g, 10, none⟩ = some (.bool b)) := by
  have hh : ∀ X, Below W.heap.size W X → X.heap[g]? = some (.cells #[.int .u16 i, .int .i64 n, .int .u8 x0, .int .u8 x1, .int .u8 x2, .int .u8 x3, .int .u8 x4, .int .u8 x5, .int .u8 x6, .int .u8 x7, .bool b] t (0, 0)) := fun X hX => blk_below h hX
  exact ⟨fun X hX => blk_cell (hh X hX) 0, fun X hX => blk_cell (hh X hX) 1, fun X hX => blk_cell (hh X hX) 2, fun X hX => blk_cell (hh X hX) 3, fun X hX => blk_cell (hh X hX) 4, fun X hX => blk_cell (hh X hX) 5, fun X hX => blk_cell (hh X hX) 6, fun X hX => blk_cell (hh X hX) 7, fun X hX => blk_cell (hh X hX) 8, fun X hX => blk_cell (hh X hX) 9, fun X hX => blk_cell (hh X hX) 10⟩
theorem reads_wf {s : List UInt8} {f : Fm} {k : Int} (h : Reads s f k) : Wf f := by
  rcases h with ⟨h, _⟩ | ⟨_, rfl, _⟩
  · exact h
  · exact ⟨rfl, by decide, by decide⟩
end Go.Proofs.YtmgabmcfgnlpfaaDoor.Frm
