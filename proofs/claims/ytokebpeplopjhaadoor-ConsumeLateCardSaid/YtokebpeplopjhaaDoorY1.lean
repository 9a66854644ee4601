/- Closed facts of the program that all cards ask, each a declaration of its own (in one they want more memory than there is). A range over a function, at the wide fence: one law for the statement, over an iterator whose whole row of values is known ahead. slices.Backward over a slice of bytes: the row of values that its iterator gives. Maps, plainly: which value stands at which key. Types, dictionaries and mappings, plainly. Rows of bytes: reading them; clones of them. -/
import Derived.Test.YtokebpeplopjhaaDoorRows
import Derived.Test.YtokebpeplopjhaaDoorProg
import Derived.WalkKit
import Derived.ProofKit
import Derived.JoinedOf
import Derived.KernelRfl
import Derived.RangeFuncLeaves
import Derived.RangeFuncRecord
import Derived.RangeFuncIn
import Derived.RangeFuncSeq
import Derived.Below
import Derived.Deep.Draws
import Derived.RangeFuncNested
import Derived.RangeFuncBound
import Derived.RangeFuncCalls
import Derived.RangeFuncBox
import Derived.Shelf.Abstract
import Derived.Shelf.RegionOpen
import Derived.OwnWalkIn
import Derived.TacticsInMore
import Derived.LoopNIn
import Derived.LoopIn
import Derived.Lib.Hide
import Derived.Maps.Own
import Derived.Maps.OwnOps
import Derived.DeepKeys5
import Derived.Test.YtokebpeplopjhaaDoorWWords
import Derived.Test.YtokebpeplopjhaaDoorWMore
import Derived.WalkSpells
namespace Go.Proofs.YtokebpeplopjhaaDoor.Mp
open Go
theorem cf_laid : laidOutB Tryd.prog = true := by kernel_rfl
theorem cf_maps : mapsRowed Tryd.prog = true := by kernel_rfl
theorem cf_keys : (Rows.mappingChecksRow.plainKeys == Tryd.prog.plainKeys) = true := by kernel_rfl
theorem cf_heard : Tryd.prog.stopsHeard = true := by kernel_rfl
theorem cf_enter : Tryd.prog.mayEnter = true := by kernel_rfl
theorem cf_lift : (Rows.mappingChecksRow.lifted == Tryd.prog.liftsFinal) = true := by kernel_rfl
theorem cf_make : (Tryd.prog.make == some Rows.mappingChecksRow.make) = true := by kernel_rfl
theorem and_i {a b : Bool} (h : a = true) (g : b = true) : (a && b) = true := by rw [h, g]; rfl
end Go.Proofs.YtokebpeplopjhaaDoor.Mp
namespace Go.Proofs.YtokebpeplopjhaaDoor.Rng
open Go.RowKit

/-- Blocks that lay in w and are not in M lie in W as they lay. -/
structure Fr (M : Nat → Prop) (w W : World) : Prop where
  os : W.os = w.os
  tape : W.tape = w.tape
  output : W.output = w.output
  size : w.heap.size ≤ W.heap.size
  block : ∀ k, k < w.heap.size → ¬ M k → W.heap[k]? = w.heap[k]?

theorem Fr.refl (M : Nat → Prop) (w : World) : Fr M w w := ⟨rfl, rfl, rfl, Nat.le_refl _, fun _ _ _ => rfl⟩
theorem Fr.trans {M : Nat → Prop} {a b c : World} (h : Fr M a b) (k : Fr M b c) : Fr M a c :=
  ⟨k.os.trans h.os, k.tape.trans h.tape, k.output.trans h.output, Nat.le_trans h.size k.size, fun i hi hm => (k.block i (Nat.lt_of_lt_of_le hi h.size) hm).trans (h.block i hi hm)⟩
theorem Fr.mono {M M' : Nat → Prop} {a b : World} (h : Fr M a b) (hm : ∀ k, M k → M' k) : Fr M' a b :=
  ⟨h.os, h.tape, h.output, h.size, fun i hi hn => h.block i hi (fun hk => hn (hm i hk))⟩
theorem Fr.weak {M M' : Nat → Prop} {a b : World} (h : Fr M a b) (hm : ∀ k, k < a.heap.size → M k → M' k) : Fr M' a b :=
  ⟨h.os, h.tape, h.output, h.size, fun i hi hn => h.block i hi (fun hk => hn (hm i hi hk))⟩
/-- Two steps, the second of which may touch what the first has made. -/
theorem Fr.then_ {M M' : Nat → Prop} {a b c : World} (h : Fr M a b) (k : Fr M' b c) (hm : ∀ i, i < a.heap.size → M' i → M i) : Fr M a c :=
  ⟨k.os.trans h.os, k.tape.trans h.tape, k.output.trans h.output, Nat.le_trans h.size k.size, fun i hi hn => (k.block i (Nat.lt_of_lt_of_le hi h.size) (fun hk => hn (hm i hi hk))).trans (h.block i hi hn)⟩
theorem Fr.alloc (M : Nat → Prop) (w : World) (o : Obj) : Fr M w (w.alloc o) := ⟨rfl, rfl, rfl, by simp, fun k hk _ => Below.heap_alloc _ _ _ hk⟩
theorem Fr.drew (M : Nat → Prop) (w : World) : Fr M w w.drew := ⟨rfl, rfl, rfl, Nat.le_refl _, fun _ _ _ => rfl⟩
theorem Fr.drewN (M : Nat → Prop) (w : World) (n : Nat) : Fr M w (w.drewN n) := ⟨rfl, rfl, rfl, Nat.le_refl _, fun _ _ _ => rfl⟩
theorem Fr.setCell {M : Nat → Prop} (w : World) (p : Addr) (v : Value) (h : M p.block ∨ w.heap.size ≤ p.block) : Fr M w (w.setCell p v) :=
  ⟨rfl, rfl, rfl, by simp [World.setCell], fun k hk hm => Below.heap_setCell _ _ _ _ (fun e => by subst e; rcases h with h | h; exact hm h; omega)⟩
theorem Fr.putObj {M : Nat → Prop} (w : World) (l : Nat) (o : Obj) (h : M l ∨ w.heap.size ≤ l) : Fr M w (w.putObj l o) :=
  ⟨rfl, rfl, rfl, by simp, fun k hk hm => World.putObj_heap_other (fun e => by subst e; rcases h with h | h; exact hm h; omega)⟩
theorem Fr.of_below {M : Nat → Prop} {w W : World} (h : Below w.heap.size w W) : Fr M w W := ⟨h.os, h.tape, h.output, h.size, fun k hk _ => h.block k hk⟩
theorem Fr.below {M : Nat → Prop} {w W : World} {B : Nat} (h : Fr M w W) (hB : ∀ k, k < B → k < w.heap.size ∧ ¬ M k) : Below B w W := ⟨h.os, h.tape, h.output, h.size, fun k hk => h.block k (hB k hk).1 (hB k hk).2⟩
theorem Fr.of_grownBy {M : Nat → Prop} {w W : World} {row : Option Nat} (hg : w.grownBy W row) (h : ∀ k, row = some k → M k ∨ w.heap.size ≤ k) : Fr M w W :=
  ⟨hg.os, hg.tape, hg.output, hg.size, fun k hk hm => hg.block k hk (fun e => by rcases h k e.symm with h | h; exact hm h; omega)⟩
theorem Fr.cell {M : Nat → Prop} {w W : World} (h : Fr M w W) {p : Addr} {v : Value} (hc : w.cell? p = some v) (hm : ¬ M p.block) : W.cell? p = some v :=
  (World.cell?_of_block (w := w) (h.block p.block (World.block_lt_of_cell? w p hc) hm)).trans hc

/-- What an iterator gives in N rounds: V k: what the values of round k are; J k: k rounds are over; Jx k: round k has said 'no more'. M: the blocks that a round may turn; R: those that the iterator itself may turn. -/
def SeqL (P : Program) (g : Nat) (lb : Array Value) (N : Nat) (V : Nat → Array Value → World → Prop) (M R : Nat → Prop) (W : World) : Prop :=
  ∀ (l : Nat) (J Jx : Nat → World → Prop), (∀ k A B, J k A → Fr R A B → J k B) → (∀ k A B, Jx k A → Fr R A B → Jx k B) →
    (∀ k args W1, k < N → V k args W1 → J k W1 → YieldAt Fence.wide 3 P l args W1 fun e W' =>
      (e = .returned (.bool true) ∧ J (k + 1) W' ∧ Fr M W1 W') ∨ (e = .returned (.bool false) ∧ Jx k W' ∧ Fr M W1 W')) →
    J 0 W →
    CallsIn Fence.wide 3 P g (#[.func (.yield l) #[] #[]] ++ lb) W fun e W' => (∃ v, e = .returned v) ∧ (J N W' ∨ ∃ k, k < N ∧ Jx k W')

/-- How a round's body may be left. -/
def roundEnd (M : Nat → Prop) (I : Nat → World → Prop) (Ix : Code → Nat → World → Prop) (k : Nat) (W : World) : Exit → Act → World → Prop
  | .normal, _, W' => Fr M W W' ∧ I (k + 1) W'
  | .ret, _, W' => Fr M W W' ∧ Ix .ret k W'
  | .exit id, _, W' => Fr M W W' ∧ Ix (.exit id) k W'
  | .goto t, _, W' => Fr M W W' ∧ Ix (.goto t) k W'
  | .panic _, _, _ => False
  | .outgrown, _, _ => False

theorem CallsIn.wide_any {n m : Nat} {P : Program} {f : FuncId} {args : Array Value} {w : World} {R : Ending → World → Prop} (h : CallsIn Fence.wide n P f args w R) : CallsIn Fence.wide m P f args w R :=
  callsIn_wide.2 (callsIn_wide.1 h)
theorem RoundIn.wide_any {n m : Nat} {P : Program} {l : Nat} {f : FuncId} {tmps : Array Value} {assign body : Code} {w : World} {R : Ending → World → Prop}
    (h : RoundIn Fence.wide n P l f tmps assign body w R) : RoundIn Fence.wide m P l f tmps assign body w R :=
  ⟨h.1, fun c cs _ => h.2 c cs (room_wide _)⟩

theorem wp_range {P : Program} {n : Nat} {g : Operand} {ps : Array Tmp} {assign body : Code} {Q : Exit → Act → World → Prop} {a : Act} {w : World}
    {gf : Nat} {lb : Array Value} (hg : a.eval g = .func (.func gf) #[] lb) (eg : ∀ args w, (callFunc gf args).run P w = .ok (.enter gf args) w)
    (N : Nat) (V : Nat → Array Value → World → Prop) (M R : Nat → Prop) (hM : ¬ M w.heap.size ∧ ¬ M (w.heap.size + 1)) (hR : ¬ R w.heap.size ∧ ¬ R (w.heap.size + 1)) (hps : ∀ k x W, V k x W → x.size = ps.size)
    (hseq : ∀ o : Obj, SeqL P gf lb N V (fun k => M k ∨ k = w.heap.size ∨ k = w.heap.size + 1) R ((w.alloc (.deferred (some []))).alloc o))
    (I : Nat → World → Prop) (Ix : Code → Nat → World → Prop)
    (hI : ∀ k A B, I k A → Fr (fun j => R j ∨ j = w.heap.size ∨ j = w.heap.size + 1) A B → I k B)
    (hIx : ∀ c k A B, Ix c k A → Fr (fun j => R j ∨ j = w.heap.size ∨ j = w.heap.size + 1) A B → Ix c k B)
    (h0 : I 0 w)
    (hround : ∀ l k args W, k < N → V k args W → w.heap.size + 2 ≤ W.heap.size → I k W →
      assign.wpIn (Fence.wide.inRound l) 3 P (Exit.then (fun a₁ W₁ => Fr M W W₁ ∧ ∀ W₂, Fr (fun j => j = w.heap.size + 1) W₁ W₂ → body.wpIn (Fence.wide.inRound l) 3 P (roundEnd M I Ix k W₂) a₁ W₂) (fun _ _ _ => False))
        { tmps := (ps.zip args).foldl (fun t (p, v) => t.setIfInBounds p v) a.tmps, defers := [] } W)
    (hdone : ∀ W, w.heap.size + 2 ≤ W.heap.size → I N W → W.heap[w.heap.size]? = some (.deferred (some [])) → Q .normal { a with defers := { target := .collected w.heap.size, args := #[] } :: a.defers } W)
    (hstop : ∀ c k W, w.heap.size + 2 ≤ W.heap.size → k < N → Ix c k W → W.heap[w.heap.size]? = some (.deferred (some [])) → c.wpIn Fence.wide n P Q { a with defers := { target := .collected w.heap.size, args := #[] } :: a.defers } W) :
    (Code.rangeFunc g ps assign body).wpIn Fence.wide n P Q a w := by
  refine wpIn_rangeFunc ?_
  intro fn _
  obtain ⟨rec, hrec⟩ : ∃ rec : LoopState → Option Code → Loop, rec = fun st pe => { state := st, pending := pe, fn, tmps := a.tmps, params := ps, assign, body, defers := w.heap.size } := ⟨_, rfl⟩
  obtain ⟨W1, hW1⟩ : ∃ W1, (w.alloc (.deferred (some []))).alloc (.loop (rec .ready none)) = W1 := ⟨_, rfl⟩
  have hs1 : W1.heap.size = w.heap.size + 2 := by rw [← hW1]; simp
  have hL1 : W1.heap[w.heap.size + 1]? = some (.loop (rec .ready none)) := by
    rw [← hW1]; have := World.alloc_heap_new (w.alloc (.deferred (some []))) (.loop (rec .ready none)); rwa [World.size_alloc] at this
  have hK1 : W1.heap[w.heap.size]? = some (.deferred (some [])) := by
    rw [← hW1]; exact (Below.heap_alloc _ _ _ (by simp)).trans (World.alloc_heap_new w _)
  have hI1 : I 0 W1 := by rw [← hW1]; exact hI _ _ _ (hI _ _ _ h0 (Fr.alloc _ _ _)) (Fr.alloc _ _ _)
  -- the facts of book-keeping
  obtain ⟨Bk, hBk⟩ : ∃ Bk : Loop → World → Prop, Bk = fun r W => w.heap.size + 2 ≤ W.heap.size ∧ W.heap[w.heap.size + 1]? = some (.loop r) ∧ W.heap[w.heap.size]? = some (.deferred (some [])) := ⟨_, rfl⟩
  have bk_fr : ∀ {r A B} {T : Nat → Prop}, Bk r A → Fr T A B → ¬ T w.heap.size → ¬ T (w.heap.size + 1) → Bk r B := by
    rw [hBk]
    intro r A B T h hf h1 h2
    exact ⟨Nat.le_trans h.1 hf.size, (hf.block _ (by have := h.1; omega) h2).trans h.2.1, (hf.block _ (by have := h.1; omega) h1).trans h.2.2⟩
  have bk_put : ∀ {r A} (r' : Loop), Bk r A → Bk r' (A.putObj (w.heap.size + 1) (.loop r')) := by
    rw [hBk]
    intro r A r' h
    exact ⟨by simpa using h.1, World.putObj_heap_same (by have := h.1; omega), (World.putObj_heap_other (by omega)).trans h.2.2⟩
  have bk1 : Bk (rec .ready none) W1 := by rw [hBk]; exact ⟨by omega, hL1, hK1⟩
  refine ⟨w.heap.size + 1, [{ target := .collected w.heap.size, args := #[] }], W1, { target := .fn (.func gf) lb, args := #[.func (.yield (w.heap.size + 1)) #[] #[]] }, W1, gf,
    #[.func (.yield (w.heap.size + 1)) #[] #[]] ++ lb, W1, ?_, ?_, fun _ _ => trivial, ?_, fun h => by simp [Fence.wide] at h, ?_⟩
  · rw [← hW1, hrec]; exact run_enterLoop_outer _ _ _ _ _
  · simp only [resolve, hg]
    simp [go_sem]
  · simp [invoke, go_sem, eg]
  have hsq := hseq (.loop (rec .ready none))
  rw [hW1] at hsq
  refine CallsIn.mono (CallsIn.wide_any (hsq (w.heap.size + 1) (fun k W => I k W ∧ Bk (rec .ready none) W) (fun k W => ∃ c, Ix c k W ∧ Bk (rec .done (some c)) W)
    (fun k A B h hf => ⟨hI _ _ _ h.1 (hf.mono (fun _ h => .inl h)), bk_fr h.2 hf hR.1 hR.2⟩)
    (fun k A B h hf => by obtain ⟨c, hc, hb⟩ := h; exact ⟨c, hIx _ _ _ _ hc (hf.mono (fun _ h => .inl h)), bk_fr hb hf hR.1 hR.2⟩) ?_ ⟨hI1, bk1⟩)) ?_
  · -- one round
    rintro k args W hk hv ⟨hi, hb⟩
    have hb' := hb
    rw [hBk] at hb'
    obtain ⟨hsz, hl, hd⟩ := hb'
    have hy := run_yield (P := P) (args := args) hl (by rw [hrec]; exact hps _ _ _ hv)
    rw [hrec] at hy
    refine ⟨fn, _, assign, body, hy, RoundIn.wide_any (n := 3) (roundIn_of_wpIn (F := Fence.wide) trivial ?_)⟩
    refine wpIn_mono (hround (w.heap.size + 1) k args W hk hv hsz hi) ?_
    rintro e a1 Wa ha
    cases e with
    | normal =>
      obtain ⟨hfa, hbody⟩ := ha
      have hba : Bk (rec .ready none) Wa := bk_fr hb hfa hM.1 hM.2
      have hba' := hba
      rw [hBk] at hba'
      refine ⟨_, run_beginRound hba'.2.1 (by rw [hrec]), ?_⟩
      have hfb : Fr (fun j => j = w.heap.size + 1) Wa (Wa.putObj (w.heap.size + 1) (.loop { rec .ready none with state := .busy })) := Fr.putObj _ _ _ (.inl rfl)
      refine wpIn_mono (hbody _ hfb) ?_
      have hbb : Bk { rec .ready none with state := .busy } (Wa.putObj (w.heap.size + 1) (.loop { rec .ready none with state := .busy })) := bk_put _ hba
      have fin : ∀ (jump : Option Code) (W3 : World), Fr M (Wa.putObj (w.heap.size + 1) (.loop { rec .ready none with state := .busy })) W3 →
          (Instr.endRound (w.heap.size + 1) jump).run P W3 = .ok (.bool jump.isNone) (W3.putObj (w.heap.size + 1) (.loop (rec (if jump.isNone then .ready else .done) jump))) ∧
          Bk (rec (if jump.isNone then .ready else .done) jump) (W3.putObj (w.heap.size + 1) (.loop (rec (if jump.isNone then .ready else .done) jump))) ∧
          Fr (fun k => M k ∨ k = w.heap.size ∨ k = w.heap.size + 1) W (W3.putObj (w.heap.size + 1) (.loop (rec (if jump.isNone then .ready else .done) jump))) := fun jump W3 hf3 => by
        have hb3 : Bk { rec .ready none with state := .busy } W3 := bk_fr hbb hf3 hM.1 hM.2
        have hb3' := hb3
        rw [hBk] at hb3'
        have := run_endRound (P := P) jump hb3'.2.1
        refine ⟨?_, bk_put _ hb3, ?_⟩
        · rw [hrec] at this ⊢; exact this
        · exact (((hfa.mono (fun _ h => .inl h)).trans (hfb.mono (fun _ h => .inr (.inr h)))).trans (hf3.mono (fun _ h => .inl h))).trans (Fr.putObj _ _ _ (.inl (.inr (.inr rfl))))
      rintro e a3 W3 hp
      cases e with
      | normal =>
        obtain ⟨hf3, hi3⟩ := hp
        obtain ⟨hr, hb4, hf4⟩ := fin none W3 hf3
        exact ⟨_, _, hr, .inl ⟨rfl, ⟨hI _ _ _ hi3 (Fr.putObj _ _ _ (.inl (.inr (.inr rfl)))), hb4⟩, hf4⟩⟩
      | ret =>
        obtain ⟨hf3, hi3⟩ := hp
        obtain ⟨hr, hb4, hf4⟩ := fin (some .ret) W3 hf3
        exact ⟨_, _, hr, .inr ⟨rfl, ⟨.ret, hIx _ _ _ _ hi3 (Fr.putObj _ _ _ (.inl (.inr (.inr rfl)))), hb4⟩, hf4⟩⟩
      | exit id =>
        obtain ⟨hf3, hi3⟩ := hp
        obtain ⟨hr, hb4, hf4⟩ := fin (some (.exit id)) W3 hf3
        exact ⟨_, _, hr, .inr ⟨rfl, ⟨.exit id, hIx _ _ _ _ hi3 (Fr.putObj _ _ _ (.inl (.inr (.inr rfl)))), hb4⟩, hf4⟩⟩
      | goto t =>
        obtain ⟨hf3, hi3⟩ := hp
        obtain ⟨hr, hb4, hf4⟩ := fin (some (.goto t)) W3 hf3
        exact ⟨_, _, hr, .inr ⟨rfl, ⟨.goto t, hIx _ _ _ _ hi3 (Fr.putObj _ _ _ (.inl (.inr (.inr rfl)))), hb4⟩, hf4⟩⟩
      | panic ch => exact hp.elim
      | outgrown => exact hp.elim
    | exit id => exact ha.elim
    | goto t => exact ha.elim
    | ret => exact ha.elim
    | panic ch => exact ha.elim
    | outgrown => exact ha.elim
  · -- behind the iterator
    rintro e W2 ⟨⟨v, rfl⟩, (⟨hi, hb⟩ | ⟨k, hk, c, hi, hb⟩)⟩
    · have hb' := hb
      rw [hBk] at hb'
      refine ⟨none, _, by have := run_endLoop (P := P) hb'.2.1 (by rw [hrec]; simp); rw [hrec] at this; exact this, ?_⟩
      exact hdone _ (by simpa using hb'.1) (hI _ _ _ hi (Fr.putObj _ _ _ (.inl (.inr (.inr rfl))))) ((World.putObj_heap_other (by omega)).trans hb'.2.2)
    · have hb' := hb
      rw [hBk] at hb'
      refine ⟨some c, _, by have := run_endLoop (P := P) hb'.2.1 (by rw [hrec]; simp); rw [hrec] at this; exact this, ?_⟩
      exact hstop c k _ (by simpa using hb'.1) hk (hIx _ _ _ _ hi (Fr.putObj _ _ _ (.inl (.inr (.inr rfl))))) ((World.putObj_heap_other (by omega)).trans hb'.2.2)

#print axioms wp_range
end Go.Proofs.YtokebpeplopjhaaDoor.Rng
namespace Go.Proofs.YtokebpeplopjhaaDoor.Rng
open Go.RowKit Go.Shelf
attribute [local go_sem] Oper.semAt_some

/-- A slice of bytes at address A reads as zs. -/
def Rd (w : World) (A : Option Addr) (zs : List Int) : Prop :=
  zs.length ≤ 9223372036854775807 ∧ (0 < zs.length → ∃ ad, A = some ad ∧ ∀ j, j < zs.length → w.cell? (ad.add j) = some (.int .u8 (zs[j]?.getD 0)))
/-- The block of a slice that is not empty is none of M. -/
def Off (M : Nat → Prop) (A : Option Addr) (n : Nat) : Prop := ∀ ad, A = some ad → 0 < n → ¬ M ad.block
theorem add_block (a : Addr) (i : Nat) : (a.add i).block = a.block := by unfold Addr.add; split <;> rfl
theorem Rd.fr {M : Nat → Prop} {w W : World} {A : Option Addr} {zs : List Int} (h : Rd w A zs) (hf : Fr M w W) (hM : Off M A zs.length) : Rd W A zs :=
  ⟨h.1, fun hn => by
    obtain ⟨ad, e, hc⟩ := h.2 hn
    exact ⟨ad, e, fun j hj => hf.cell (hc j hj) (by rw [add_block]; exact hM ad e hn)⟩⟩
theorem Rd.at_ {w : World} {A : Option Addr} {zs : List Int} (h : Rd w A zs) (j : Nat) (hj : j < zs.length) : ∃ ad, A = some ad ∧ w.cell? (ad.add j) = some (.int .u8 (zs[j]?.getD 0)) := by
  obtain ⟨ad, e, hc⟩ := h.2 (by omega)
  exact ⟨ad, e, hc j hj⟩

/-- The pairs: the last element first. -/
def backs (zs : List Int) (k : Nat) (args : Array Value) (_ : World) : Prop := args = #[.int .i64 ((zs.length - 1 - k : Nat) : Int), .int .u8 (zs[zs.length - 1 - k]?.getD 0)]

set_option maxRecDepth 100000 in
set_option maxHeartbeats 2000000 in
theorem back_seq (Bs cap : Nat) (A : Option Addr) (zs : List Int) (M : Nat → Prop) (W : World) (hBs : W.cell? ⟨Bs, 0, none⟩ = some (.slice A zs.length cap)) (hM : ¬ M Bs) (hz : Rd W A zs) (hA : Off M A zs.length) :
    SeqL Tryd.prog 155 #[.pointer (some ⟨Bs, 0, none⟩)] zs.length (backs zs) M (fun _ => False) W := by
  intro l J Jx hJ hJx hY h0
  obtain ⟨len, hlen⟩ : ∃ len, zs.length = len := ⟨_, rfl⟩
  have Hlen := Lib.hid hlen
  have HY := Lib.hid hY
  have HA := Lib.hid hA
  have Hz := Lib.hid hz
  have hle : len ≤ 9223372036854775807 := hlen ▸ hz.1
  rw [hlen] at hBs
  clear hJ hJx hY hlen hA hz
  refine callsIn_of_wp Tryd.func155 rfl trivial ?_ rfl
  simp only [Tryd.ntmps155, List.size_toArray, List.length_cons, List.length_nil, Nat.reduceAdd, Nat.reduceSub, Array.replicate_succ, Array.replicate_zero, List.push_toArray, List.append_toArray, List.nil_append, List.cons_append]
  gi_wp2
  gi_loopw [3] (fun i wr => ∃ k : Nat, k ≤ len ∧ i = .int .i64 ((len : Int) - 1 - k) ∧ J k wr ∧ Fr M W wr)
    (fun i _ => (intOf i + 1).toNat)
  case atStart => exact ⟨0, Nat.zero_le _, by simp, h0, Fr.refl _ _⟩
  case round =>
    obtain ⟨k, hk, rfl, hJs, hfr⟩ := hrel
    have hc := hfr.cell hBs hM
    by_cases hlt : k < len
    · obtain ⟨ad, hA0, hcell⟩ := (Hz.out.fr hfr HA.out).at_ (len - 1 - k) (by have := Hlen.out; omega)
      subst hA0
      obtain ⟨fn, tmps, assign, body, hy, hR⟩ := HY.out k _ wr (by have := Hlen.out; omega) rfl hJs
      rw [Hlen.out] at hy
      obtain ⟨m, hm⟩ : ∃ m : Nat, len - 1 - k = m := ⟨_, rfl⟩
      have hm2 : (len : Int) - 1 - k = m := by omega
      have hml : m < len := by omega
      rw [hm] at hy hcell
      rw [hm2]
      have hkm : k + m + 1 = len := by omega
      have HKM := Lib.hid hkm
      clear hm hm2 hlt hk hkm
      gi_wp2
      refine (RoundIn.wide_any hR).mono ?_
      rintro e W3 (⟨rfl, hJ3, hk3⟩ | ⟨rfl, hJx3, hk3⟩)
      · gi_wp2
        go_roundw
        case rel => exact ⟨k + 1, by have := HKM.out; omega, by have := HKM.out; congr 1; omega, hJ3, hfr.trans hk3⟩
        case measure => simp [intOf]
      · gi_wp2
        refine bodyPost_ret (results_none rfl _ _ _) rfl ?_
        exact ⟨⟨_, rfl⟩, .inr ⟨k, by rw [Hlen.out]; have := HKM.out; omega, hJx3⟩⟩
    · obtain rfl : k = len := by omega
      rw [show ((k : Int) - 1 - k) = -1 by omega]
      gi_wp2
      go_end0
      exact ⟨⟨_, rfl⟩, .inl (by rw [Hlen.out]; exact hJs)⟩

end Go.Proofs.YtokebpeplopjhaaDoor.Rng
namespace Go.Proofs.YtokebpeplopjhaaDoor.Mp
open Go.RowKit Go.ChangeMaps Go.MapKept Go.Maps

/-- Block b of w is a map of at most n entries that holds f. -/
def MapAt (P : Program) (k : TypeId) (w : World) (b n : Nat) (f : Value → Option Value) : Prop :=
  ∃ es clock, w.heap[b]? = some (.map es clock) ∧ Stamped es clock ∧ es.size ≤ n ∧ (∀ x ∈ es.toList, ∃ l, keyOf P k x.key = some l) ∧
    (∀ x ∈ es.toList, f x.key = some x.val) ∧ ∀ key v, f key = some v → ∃ x ∈ es.toList, x.key = key ∧ x.val = v
section
variable {P : Program} {k e t : TypeId} {w : World} {b n : Nat} {f : Value → Option Value}
theorem MapAt.lt (h : MapAt P k w b n f) : b < w.heap.size := by
  obtain ⟨es, clock, hb, _⟩ := h
  exact (Array.getElem?_eq_some_iff.1 hb).1
theorem MapAt.block {W : World} (h : MapAt P k w b n f) (hb : W.heap[b]? = w.heap[b]?) : MapAt P k W b n f := by
  obtain ⟨es, clock, h1, h2⟩ := h
  exact ⟨es, clock, hb.trans h1, h2⟩
theorem MapAt.below {W : World} (h : MapAt P k w b n f) (hb : Below w.heap.size w W) : MapAt P k W b n f := h.block (hb.block b h.lt)
theorem MapAt.mono {m : Nat} (h : MapAt P k w b n f) (hn : n ≤ m) : MapAt P k w b m f := by
  obtain ⟨es, clock, h1, h2, h3, h4⟩ := h
  exact ⟨es, clock, h1, h2, Nat.le_trans h3 hn, h4⟩
theorem MapAt.made (P : Program) (k : TypeId) (w : World) : MapAt P k (w.alloc (.map #[] 0)) w.heap.size 0 (fun _ => none) :=
  ⟨#[], 0, (MapKept.heap_alloc w _).1, stamped_empty 0, Nat.le_refl _, by simp, by simp, by simp⟩
/-- 'm[k]' (c = false), 'v, ok := m[k]' (c = true). -/
theorem MapAt.look (h : MapAt P k w b n f) (K : Keyed P k) (ht : P.underlying t = some (.map k e)) {z : Value} (hz : (zeroValue e).run P w = .ok z w) {key : Value} {kl : Lit} (hkey : keyOf P k key = some kl) (c : Bool) :
    (Instr.lookup t (.map (some b)) key c).run P w = .ok (if c then .tuple #[(f key).getD z, .bool (f key).isSome] else (f key).getD z) w := by
  obtain ⟨es, clock, hb, hs, hn, hk, h1, h2⟩ := h
  rcases K.find w hkey es.toList hk with ⟨r1, r2⟩ | ⟨j, e0, r1, r2, r3⟩
  · have hf : f key = none := by
      cases hf : f key with
      | none => rfl
      | some v =>
        obtain ⟨x, hx, e1, _⟩ := h2 key v hf
        exact absurd e1 (r2 x hx)
    simp [Instr.lookup, run_underlying ht, MapKept.run_getObj_map hb, K.check w _ hkey, r1, hz, Result.andThen, hf]
  · have hf : f key = some e0.val := r3 ▸ h1 e0 (List.mem_of_getElem? r2)
    simp [Instr.lookup, run_underlying ht, MapKept.run_getObj_map hb, K.check w _ hkey, r1, Result.andThen, hf]
/-- A nil map holds nothing. -/
theorem look_nil (K : Keyed P k) (ht : P.underlying t = some (.map k e)) {z : Value} (hz : (zeroValue e).run P w = .ok z w) {key : Value} {kl : Lit} (hkey : keyOf P k key = some kl) (c : Bool) :
    (Instr.lookup t (.map none) key c).run P w = .ok (if c then .tuple #[z, .bool false] else z) w := by
  rcases K.find w hkey [] (by simp) with ⟨r1, r2⟩ | ⟨j, e0, r1, r2, r3⟩
  · simp [Instr.lookup, run_underlying ht, K.check w _ hkey, r1, hz, Result.andThen]
  · simp at r2
/-- 'm[k] = v'. -/
theorem MapAt.put (h : MapAt P k w b n f) (K : Keyed P k) (ht : P.underlying t = some (.map k e)) {key : Value} {kl : Lit} (hkey : keyOf P k key = some kl) (val : Value) {f' : Value → Option Value} (hf1 : f' key = some val) (hf2 : ∀ x, x ≠ key → f' x = f x) :
    ∃ o, (Instr.mapUpdate t (.map (some b)) key val).run P w = .ok () (setBlock w b o) ∧ MapAt P k (setBlock w b o) b (n + 1) f' := by
  have hlt := h.lt
  obtain ⟨es, clock, hb, hs, hn, hk, h1, h2⟩ := h
  have hblk : ∀ o, (setBlock w b o).heap[b]? = some o := fun o => by
    simp only [setBlock]
    rw [Array.getElem?_setIfInBounds_self_of_lt hlt]
  rcases K.find w hkey es.toList hk with ⟨r1, r2⟩ | ⟨j, e0, r1, r2, r3⟩
  · refine ⟨.map (es.push ⟨key, val, clock⟩) (clock + 1), ?_, es.push ⟨key, val, clock⟩, clock + 1, hblk _, stamped_push hs r2, by simp; omega, ?_, ?_, ?_⟩
    · simp [Instr.mapUpdate, run_underlying ht, MapKept.run_getObj_map hb, K.check w false hkey, r1, MapKept.run_setObj_map _ hb, Result.andThen, setBlock]
    · intro x hx
      simp only [Array.toList_push, List.mem_append, List.mem_singleton] at hx
      rcases hx with hx | rfl
      · exact hk x hx
      · exact ⟨_, hkey⟩
    · intro x hx
      simp only [Array.toList_push, List.mem_append, List.mem_singleton] at hx
      rcases hx with hx | rfl
      · rw [hf2 _ (r2 x hx)]
        exact h1 x hx
      · exact hf1
    · intro ky v hv
      simp only [Array.toList_push, List.mem_append, List.mem_singleton]
      by_cases e : ky = key
      · subst e
        rw [hf1] at hv
        cases hv
        exact ⟨_, Or.inr rfl, rfl, rfl⟩
      · rw [hf2 _ e] at hv
        obtain ⟨x, hx, e1, e2⟩ := h2 ky v hv
        exact ⟨x, Or.inl hx, e1, e2⟩
  · have hj : es[j]? = some e0 := by simpa using r2
    have hkeyf : ∀ e', es[j]? = some e' → ({ e' with key := key, val := val } : MapEntry).key = e'.key := fun e' he' => by rw [hj] at he'; cases he'; exact r3.symm
    have hlist : (es.modify j (fun e' => { e' with key := key, val := val })).toList = es.toList.set j { e0 with key := key, val := val } := by rw [Array.toList_modify, modify_eq_set _ _ _ _ r2]
    have hpw := ((stamped_iff es clock).1 hs).2.2
    have other : ∀ (i : Nat) (x : MapEntry), i ≠ j → es.toList[i]? = some x → x.key ≠ key := by
      intro i x hij hx
      obtain ⟨hi, ex⟩ := List.getElem?_eq_some_iff.1 hx
      obtain ⟨hjl, ej⟩ := List.getElem?_eq_some_iff.1 r2
      rw [← r3, ← ex, ← ej]
      rcases Nat.lt_or_gt_of_ne hij with hlt' | hgt
      · exact List.pairwise_iff_getElem.1 hpw i j hi hjl hlt'
      · exact (List.pairwise_iff_getElem.1 hpw j i hjl hi hgt).symm
    have who : ∀ x ∈ es.toList.set j { e0 with key := key, val := val }, x = { e0 with key := key, val := val } ∨ (x ∈ es.toList ∧ x.key ≠ key) := by
      intro x hx
      obtain ⟨i, hi, ex⟩ := List.getElem_of_mem hx
      rw [List.getElem_set] at ex
      split at ex
      · exact Or.inl ex.symm
      · rename_i hne
        have hi' : i < es.toList.length := by simpa using hi
        exact Or.inr ⟨ex ▸ List.getElem_mem hi', other i x (fun e1 => hne e1.symm) (by rw [List.getElem?_eq_getElem hi', ex])⟩
    refine ⟨.map (es.modify j (fun e' => { e' with key := key, val := val })) clock, ?_, es.modify j (fun e' => { e' with key := key, val := val }), clock, hblk _, stamped_modify hs _ _ (fun _ _ => rfl) (fun e' _ he' => hkeyf e' he'), by simp; omega, ?_, ?_, ?_⟩
    · simp [Instr.mapUpdate, run_underlying ht, MapKept.run_getObj_map hb, K.check w false hkey, r1, hj, r3, K.stays w hkey, MapKept.run_setObj_map _ hb, Result.andThen, setBlock]
    · intro x hx
      rw [hlist] at hx
      rcases who x hx with rfl | ⟨hx', _⟩
      · exact ⟨_, hkey⟩
      · exact hk x hx'
    · intro x hx
      rw [hlist] at hx
      rcases who x hx with rfl | ⟨hx', hne⟩
      · exact hf1
      · rw [hf2 _ hne]
        exact h1 x hx'
    · intro ky v hv
      rw [hlist]
      have hjl : j < es.toList.length := (List.getElem?_eq_some_iff.1 r2).1
      by_cases e1 : ky = key
      · subst e1
        rw [hf1] at hv
        cases hv
        exact ⟨{ e0 with key := ky, val := val }, List.mem_iff_getElem.2 ⟨j, by simpa using hjl, by simp⟩, rfl, rfl⟩
      · rw [hf2 _ e1] at hv
        obtain ⟨x, hx, e2, e3⟩ := h2 ky v hv
        obtain ⟨i, hi, ex⟩ := List.getElem_of_mem hx
        have hij : i ≠ j := by
          intro e4
          subst e4
          have := (List.getElem?_eq_some_iff.1 r2).2
          rw [ex] at this
          subst this
          exact e1 (e2.symm.trans r3)
        exact ⟨x, List.mem_iff_getElem.2 ⟨i, by simpa using hi, by rw [List.getElem_set_ne (Ne.symm hij)]; exact ex⟩, e2, e3⟩
end
end Go.Proofs.YtokebpeplopjhaaDoor.Mp
namespace Go.Proofs.YtokebpeplopjhaaDoor.Mp

/-- A type's kind (1 bool, 2 with a sign, 3 without, 4 float, 5 time, 6 text, 0 none), and its size. -/
def knd (t : Int) : Int :=
  if t = 1 then 1 else if t = 2 ∨ t = 3 ∨ t = 4 ∨ t = 16 ∨ t = 21 then 2 else if t = 5 ∨ t = 6 ∨ t = 7 ∨ t = 22 ∨ t = 27 then 3
  else if t = 8 ∨ t = 17 then 4 else if t = 12 ∨ t = 13 then 5 else if t = 9 ∨ t = 10 ∨ t = 15 then 6 else 0
def siz (t : Int) : Int :=
  if t = 1 ∨ t = 2 ∨ t = 5 then 1 else if t = 3 ∨ t = 6 then 2 else if t = 16 ∨ t = 22 then 3 else if t = 4 ∨ t = 7 ∨ t = 8 then 4
  else if t = 12 ∨ t = 13 then 6 else if t = 21 ∨ t = 27 ∨ t = 17 then 8 else 0
theorem form_cases (t : Int) : (t = 1 ∧ knd t = 1 ∧ siz t = 1) ∨ (t = 2 ∧ knd t = 2 ∧ siz t = 1) ∨ (t = 3 ∧ knd t = 2 ∧ siz t = 2) ∨ (t = 4 ∧ knd t = 2 ∧ siz t = 4) ∨ (t = 16 ∧ knd t = 2 ∧ siz t = 3) ∨ (t = 21 ∧ knd t = 2 ∧ siz t = 8) ∨ (t = 5 ∧ knd t = 3 ∧ siz t = 1) ∨ (t = 6 ∧ knd t = 3 ∧ siz t = 2) ∨ (t = 7 ∧ knd t = 3 ∧ siz t = 4) ∨ (t = 22 ∧ knd t = 3 ∧ siz t = 3) ∨ (t = 27 ∧ knd t = 3 ∧ siz t = 8) ∨ (t = 8 ∧ knd t = 4 ∧ siz t = 4) ∨ (t = 17 ∧ knd t = 4 ∧ siz t = 8) ∨ (t = 12 ∧ knd t = 5 ∧ siz t = 6) ∨ (t = 13 ∧ knd t = 5 ∧ siz t = 6) ∨ (t = 9 ∧ knd t = 6 ∧ siz t = 0) ∨ (t = 10 ∧ knd t = 6 ∧ siz t = 0) ∨ (t = 15 ∧ knd t = 6 ∧ siz t = 0) ∨ (t ≠ 1 ∧ knd t = 0 ∧ siz t = 0) := by
  by_cases h1 : t = 1
  · subst h1; decide
  by_cases h2 : t = 2
  · subst h2; decide
  by_cases h3 : t = 3
  · subst h3; decide
  by_cases h4 : t = 4
  · subst h4; decide
  by_cases h16 : t = 16
  · subst h16; decide
  by_cases h21 : t = 21
  · subst h21; decide
  by_cases h5 : t = 5
  · subst h5; decide
  by_cases h6 : t = 6
  · subst h6; decide
  by_cases h7 : t = 7
  · subst h7; decide
  by_cases h22 : t = 22
  · subst h22; decide
  by_cases h27 : t = 27
  · subst h27; decide
  by_cases h8 : t = 8
  · subst h8; decide
  by_cases h17 : t = 17
  · subst h17; decide
  by_cases h12 : t = 12
  · subst h12; decide
  by_cases h13 : t = 13
  · subst h13; decide
  by_cases h9 : t = 9
  · subst h9; decide
  by_cases h10 : t = 10
  · subst h10; decide
  by_cases h15 : t = 15
  · subst h15; decide
  have e1 : knd t = 0 := by simp [knd, h1, h2, h3, h4, h16, h21, h5, h6, h7, h22, h27, h8, h17, h12, h13, h9, h10, h15]
  have e2 : siz t = 0 := by simp [siz, h1, h2, h3, h4, h16, h21, h5, h6, h7, h22, h27, h8, h17, h12, h13]
  exact Or.inr (Or.inr (Or.inr (Or.inr (Or.inr (Or.inr (Or.inr (Or.inr (Or.inr (Or.inr (Or.inr (Or.inr (Or.inr (Or.inr (Or.inr (Or.inr (Or.inr (Or.inr (⟨h1, e1, e2⟩))))))))))))))))))
theorem knd_cases (t : Int) : knd t = 0 ∨ knd t = 1 ∨ knd t = 2 ∨ knd t = 3 ∨ knd t = 4 ∨ knd t = 5 ∨ knd t = 6 := by
  have := form_cases t
  omega
theorem siz_cases (t : Int) : siz t = 0 ∨ siz t = 1 ∨ siz t = 2 ∨ siz t = 3 ∨ siz t = 4 ∨ siz t = 6 ∨ siz t = 8 := by
  have := form_cases t
  omega
theorem siz_pos {t : Int} : 0 < siz t ↔ knd t ≠ 0 ∧ knd t ≠ 6 := by
  have := form_cases t
  omega
theorem knd_one {t : Int} : knd t = 1 ↔ t = 1 := by
  have := form_cases t
  omega
theorem siz_of (t : Int) : (knd t = 1 → siz t = 1) ∧ (knd t = 2 → siz t = 1 ∨ siz t = 2 ∨ siz t = 3 ∨ siz t = 4 ∨ siz t = 8) ∧ (knd t = 3 → siz t = 1 ∨ siz t = 2 ∨ siz t = 3 ∨ siz t = 4 ∨ siz t = 8) ∧ (knd t = 4 → siz t = 4 ∨ siz t = 8) ∧ (knd t = 5 → siz t = 6) ∧ (knd t = 6 → siz t = 0) ∧ (knd t = 0 → siz t = 0) := by
  have := form_cases t
  refine ⟨?_, ?_, ?_, ?_, ?_, ?_, ?_⟩ <;> intro h <;> omega

/-- A number, the lowest byte first. -/
def num : List Int → Int
  | [] => 0
  | b :: r => b + 256 * num r
def Byt (l : List Int) : Prop := ∀ x ∈ l, 0 ≤ x ∧ x < 256
theorem num_nonneg {l : List Int} (h : Byt l) : 0 ≤ num l := by
  induction l with
  | nil => simp [num]
  | cons b r ih =>
    have h1 := h b (by simp)
    have h2 := ih (fun x hx => h x (by simp [hx]))
    simp only [num]
    omega
theorem num_lt {l : List Int} (h : Byt l) : num l < 256 ^ l.length := by
  induction l with
  | nil => simp [num]
  | cons b r ih =>
    have h1 := h b (by simp)
    have h2 := ih (fun x hx => h x (by simp [hx]))
    simp only [num, List.length_cons, Int.pow_succ]
    omega
/-- Why bytes are no value. -/
def plainC (t : Int) (b : List Int) : Int :=
  if knd t = 0 then 0x08000000 else if 4096 < (b.length : Int) ∨ (knd t ≠ 6 ∧ siz t < b.length) then 0x06070012 else if (b.length : Int) < siz t then 0x06070013
  else if (knd t = 1 ∧ (1 : Int) < b[0]?.getD 0) ∨ (knd t = 5 ∧ 86400000 ≤ num (b.take 4)) then 0x06090030 else 0
theorem plainC_0 {t : Int} {b : List Int} (h : plainC t b = 0) : knd t ≠ 0 ∧ b.length ≤ 4096 ∧ (knd t ≠ 6 → (b.length : Int) = siz t) ∧ (knd t = 1 → b[0]?.getD 0 ≤ (1 : Int)) ∧ (knd t = 5 → num (b.take 4) < 86400000) := by
  unfold plainC at h
  repeat' split at h
  all_goals first | omega | skip
/-- A number with a sign. -/
def wholeC (b : List Int) : Int := if 2 * num b < 256 ^ b.length then num b else num b - 256 ^ b.length
def cmp3 (a b : Int) : Int := if a < b then -1 else if b < a then 1 else 0
structure En where
  ix : Int
  sub : Int
  name : ByteArray
  ty : Int
  rt : Int
  df : List Int
  lo : List Int
  hi : List Int
  tag : Int
  grp : Int
/-- An entry and its value. -/
structure It extends En where
  val : List Int
def zEn : En := ⟨0, 0, ByteArray.empty, 0, 0, [], [], [], 0, 0⟩
def zIt : It := ⟨zEn, []⟩
/-- A dictionary: its items; how many entries an index has; how many values were set. -/
structure DD where
  D : Int → Int → Option It
  S : Int → Int
  c : Int
def firstC (e : En) : List Int := if 0 < e.df.length then e.df else List.replicate (siz e.ty).toNat 0
section
variable (chk : Int → List Int → List Int → List Int → Int)
/-- May an entry be? -/
def mayC (e : En) : Prop := knd e.ty ≠ 0 ∧ e.rt ≤ 15 ∧ e.grp ≤ 16 ∧ e.name.size ≤ 100 ∧ (e.lo = [] ∨ chk e.ty e.lo [] [] = 0) ∧ (e.hi = [] ∨ chk e.ty e.hi [] [] = 0) ∧ chk e.ty (firstC e) e.lo e.hi = 0
end
/-- One entry more. -/
def DD.add (d : DD) (e : En) : DD := ⟨fun i s => if i = e.ix ∧ s = e.sub then some ⟨e, firstC e⟩ else d.D i s, fun i => if i = e.ix then d.S i + 1 else d.S i, d.c⟩
def DD.none : DD := ⟨fun _ _ => Option.none, fun _ => 0, 0⟩
def DD.of (l : List En) : DD := l.foldl DD.add DD.none
/-- A value is put. -/
def DD.put (d : DD) (x : It) (b : List Int) : DD := ⟨fun i s => if i = x.ix ∧ s = x.sub then some { x with val := b } else d.D i s, d.S, Go.IntKind.i64.wrap (d.c + 1)⟩
/-- An entry, or why there is none. -/
def DD.at (d : DD) (i s : Int) : It × Int := match d.D i s with
  | some x => (x, 0)
  | .none => (zIt, if 0 < d.S i then 0x06090011 else 0x06020000)
end Go.Proofs.YtokebpeplopjhaaDoor.Mp
namespace Go.Proofs.YtokebpeplopjhaaDoor.Rng
open Go.RowKit Go.Shelf Go.Proofs.YtokebpeplopjhaaDoorW.PrintWords Go.Proofs.YtokebpeplopjhaaDoorW.PrintMore

abbrev kB : Kd Int := Kd.int .u8
theorem C_Rd {w : World} {A : Option Addr} {zs : List Int} (h : kB.C w A zs.length zs) : Rd w A zs := by
  obtain ⟨_, h1, h2⟩ := Kd.reads_of_C (enc := Value.int .u8) (d := (0 : Int)) (h1 := fun _ => rfl) h
  refine ⟨h1, fun hn => ?_⟩
  obtain ⟨ad, e, hc⟩ := h2 hn
  exact ⟨ad, e, fun j hj => by rw [hc j hj, List.getD_eq_getElem?_getD]⟩
theorem Rd_C {w : World} {A : Option Addr} {zs : List Int} (h : Rd w A zs) : kB.C w A zs.length zs := by
  refine ⟨rfl, h.1, fun hn => ?_⟩
  obtain ⟨ad, e, hc⟩ := h.2 hn
  refine ⟨ad, e, fun j p hj => ⟨[.int .u8 p], rfl, rfl, fun i u hu => ?_⟩⟩
  have hjl := (List.getElem?_eq_some_iff.1 hj).1
  cases i with
  | zero => simp at hu; subst hu; have := hc j hjl; rw [hj] at this; simpa [Kd.int, Kd.scalar] using this
  | succ i => simp at hu
/-- What is read lies below the heap's size. -/
theorem Rd.off {w : World} {A : Option Addr} {zs : List Int} (h : Rd w A zs) : Off (fun k => w.heap.size ≤ k) A zs.length := by
  intro ad e hn hk
  obtain ⟨ad', e', hc⟩ := h.2 hn
  rw [e] at e'
  obtain rfl := Option.some.inj e'
  have h0 := World.block_lt_of_cell? _ _ (hc 0 hn)
  rw [add_block] at h0
  omega
theorem Rd.nil_ {w : World} {zs : List Int} (h : Rd w none zs) : zs = [] := by
  rcases Nat.eq_zero_or_pos zs.length with h0 | h0
  · exact List.eq_nil_of_length_eq_zero h0
  · obtain ⟨ad, e, _⟩ := h.2 h0
    cases e
theorem Rd.none (w : World) : Rd w none [] := ⟨by simp, fun h => by simp at h⟩
theorem Rd.nil (w : World) (A : Option Addr) : Rd w A [] := ⟨by simp, fun h => by simp at h⟩
theorem info_u8 : (Tryd.prog.info? 5).map (fun i => (i.zero, i.size, i.bytes)) = some (some (.int .u8 0), 1, 1) := by kernel_rfl

/-- A value that reads as bytes. -/
def RdV (W : World) (v : Value) (s : List Int) : Prop := ∃ A c, v = .slice A s.length c ∧ s.length ≤ c ∧ Rd W A s
theorem RdV.nil (W : World) : RdV W (.slice none 0 0) [] := ⟨_, _, rfl, Nat.le_refl _, Rd.none W⟩
theorem Rd.below {W W' : World} {A : Option Addr} {s : List Int} (h : Rd W A s) (hb : Below W.heap.size W W') : Rd W' A s :=
  h.fr (M := fun k => W.heap.size ≤ k) (Fr.of_below hb) h.off
theorem RdV.below {W W' : World} {v : Value} {s : List Int} (h : RdV W v s) (hb : Below W.heap.size W W') : RdV W' v s := by
  obtain ⟨A, c, e, hl, hC⟩ := h
  exact ⟨A, c, e, hl, hC.below hb⟩
/-- No block of M holds a byte. -/
def NoByte (w : World) (M : Nat → Prop) : Prop := ∀ p x, M p.block → w.cell? p ≠ some (.int .u8 x)
theorem Rd.offM {M : Nat → Prop} {W : World} {A : Option Addr} {s : List Int} (h : Rd W A s) (hM : NoByte W M) : Off M A s.length := by
  intro ad e hn hk
  obtain ⟨ad', e', hc⟩ := h.2 hn
  rw [e] at e'
  obtain rfl := Option.some.inj e'
  exact hM (ad.add 0) _ (by rw [add_block]; exact hk) (hc 0 hn)
theorem Rd.frM {M : Nat → Prop} {W W' : World} {A : Option Addr} {s : List Int} (h : Rd W A s) (hf : Fr M W W') (hM : NoByte W M) : Rd W' A s := h.fr hf (h.offM hM)
theorem RdV.fr {M : Nat → Prop} {W W' : World} {v : Value} {s : List Int} (h : RdV W v s) (hf : Fr M W W') (hM : NoByte W M) : RdV W' v s := by
  obtain ⟨A, c, e, hl, hC⟩ := h
  exact ⟨A, c, e, hl, hC.frM hf hM⟩
theorem RdV.of_R {W : World} {e base : Nat} {ok : Nat → Prop} {v : Value} {s : List Int} (h : Kd.R kB e W base ok v s) : RdV W v s := by
  obtain ⟨A, c, e, hl, hC⟩ := Kd.R_reads h
  exact ⟨A, c, e, hl, C_Rd hC⟩
theorem RdV.len {W : World} {v : Value} {s : List Int} (h : RdV W v s) : s.length ≤ 9223372036854775807 := by
  obtain ⟨_, _, _, _, hC⟩ := h
  exact hC.1
theorem own_none (W : World) (e : TypeId) (base : Nat) (hb : base ≤ W.heap.size) : Kd.R kB e (W.alloc (.cells #[] e)) base (fun k => base ≤ k) (.slice (some ⟨W.heap.size, 0, none⟩) 0 0) [] := by
  have h := own_lit W base e .u8 [] hb (by simp)
  exact Kd.R_of_own (enc := Value.int .u8) (h1 := fun _ => rfl) (xs := ([] : List Int)) h (fun k hk => by simp [Value.ownBlock] at hk; omega)
end Go.Proofs.YtokebpeplopjhaaDoor.Rng
