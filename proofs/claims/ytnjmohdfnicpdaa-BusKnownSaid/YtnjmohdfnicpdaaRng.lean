/- A range over a function, at the wide fence: one law for the statement, over an iterator whose whole row of values is known ahead. -/
import Derived.RangeFuncLeaves
import Derived.RangeFuncRecord
import Derived.RangeFuncIn
import Derived.RangeFuncSeq
import Derived.Below
import Derived.Deep.Draws
namespace Go.Proofs.Ytnjmohdfnicpdaa.Rng
open Go.RowKit

/-- Blocks that lay in w and are not in M lie in W as they lay. -/
structure Fr (M : Nat → Prop) (w W : World) : Prop where
  os : W.os = w.os
  tape : W.tape = w.tape
  output : W.output = w.output
  size : w.heap.size ≤ W.heap.size
  block : ∀ k, k < w.heap.size → ¬ M k → W.heap[k]? = w.heap[k]?

theorem Fr.refl (M : Nat → Prop) (w : World) : Fr M w w := ⟨rfl, rfl, rfl, Nat.le_refl _, fun _ _ _ => rfl⟩
theorem Fr.trans {M : Nat → Prop} {a b c : World} (h : Fr M a b) (k : Fr M b c) : Fr M a c :=
  ⟨k.os.trans h.os, k.tape.trans h.tape, k.output.trans h.output, Nat.le_trans h.size k.size, fun i hi hm => (k.block i (Nat.lt_of_lt_of_le hi h.size) hm).trans (h.block i hi hm)⟩
theorem Fr.mono {M M' : Nat → Prop} {a b : World} (h : Fr M a b) (hm : ∀ k, M k → M' k) : Fr M' a b :=
  ⟨h.os, h.tape, h.output, h.size, fun i hi hn => h.block i hi (fun hk => hn (hm i hk))⟩
theorem Fr.weak {M M' : Nat → Prop} {a b : World} (h : Fr M a b) (hm : ∀ k, k < a.heap.size → M k → M' k) : Fr M' a b :=
  ⟨h.os, h.tape, h.output, h.size, fun i hi hn => h.block i hi (fun hk => hn (hm i hi hk))⟩
/-- Two steps, the second of which may touch what the first has made. -/
theorem Fr.then_ {M M' : Nat → Prop} {a b c : World} (h : Fr M a b) (k : Fr M' b c) (hm : ∀ i, i < a.heap.size → M' i → M i) : Fr M a c :=
  ⟨k.os.trans h.os, k.tape.trans h.tape, k.output.trans h.output, Nat.le_trans h.size k.size, fun i hi hn => (k.block i (Nat.lt_of_lt_of_le hi h.size) (fun hk => hn (hm i hi hk))).trans (h.block i hi hn)⟩
theorem Fr.alloc (M : Nat → Prop) (w : World) (o : Obj) : Fr M w (w.alloc o) := ⟨rfl, rfl, rfl, by simp, fun k hk _ => Below.heap_alloc _ _ _ hk⟩
theorem Fr.drew (M : Nat → Prop) (w : World) : Fr M w w.drew := ⟨rfl, rfl, rfl, Nat.le_refl _, fun _ _ _ => rfl⟩
theorem Fr.drewN (M : Nat → Prop) (w : World) (n : Nat) : Fr M w (w.drewN n) := ⟨rfl, rfl, rfl, Nat.le_refl _, fun _ _ _ => rfl⟩
theorem Fr.setCell {M : Nat → Prop} (w : World) (p : Addr) (v : Value) (h : M p.block ∨ w.heap.size ≤ p.block) : Fr M w (w.setCell p v) :=
  ⟨rfl, rfl, rfl, by simp [World.setCell], fun k hk hm => Below.heap_setCell _ _ _ _ (fun e => by subst e; rcases h with h | h; exact hm h; omega)⟩
theorem Fr.putObj {M : Nat → Prop} (w : World) (l : Nat) (o : Obj) (h : M l ∨ w.heap.size ≤ l) : Fr M w (w.putObj l o) :=
  ⟨rfl, rfl, rfl, by simp, fun k hk hm => World.putObj_heap_other (fun e => by subst e; rcases h with h | h; exact hm h; omega)⟩
theorem Fr.of_below {M : Nat → Prop} {w W : World} (h : Below w.heap.size w W) : Fr M w W := ⟨h.os, h.tape, h.output, h.size, fun k hk _ => h.block k hk⟩
theorem Fr.below {M : Nat → Prop} {w W : World} {B : Nat} (h : Fr M w W) (hB : ∀ k, k < B → k < w.heap.size ∧ ¬ M k) : Below B w W := ⟨h.os, h.tape, h.output, h.size, fun k hk => h.block k (hB k hk).1 (hB k hk).2⟩
theorem Fr.of_grownBy {M : Nat → Prop} {w W : World} {row : Option Nat} (hg : w.grownBy W row) (h : ∀ k, row = some k → M k ∨ w.heap.size ≤ k) : Fr M w W :=
  ⟨hg.os, hg.tape, hg.output, hg.size, fun k hk hm => hg.block k hk (fun e => by rcases h k e.symm with h | h; exact hm h; omega)⟩
theorem Fr.cell {M : Nat → Prop} {w W : World} (h : Fr M w W) {p : Addr} {v : Value} (hc : w.cell? p = some v) (hm : ¬ M p.block) : W.cell? p = some v :=
  (World.cell?_of_block (w := w) (h.block p.block (World.block_lt_of_cell? w p hc) hm)).trans hc

/-- What an iterator gives in N rounds: V k: what the values of round k are; J k: k rounds are over; Jx k: round k has said 'no more'. M: the blocks that a round may turn; R: those that the iterator itself may turn. -/
def SeqL (P : Program) (g : Nat) (lb : Array Value) (N : Nat) (V : Nat → Array Value → World → Prop) (M R : Nat → Prop) (W : World) : Prop :=
  ∀ (l : Nat) (J Jx : Nat → World → Prop), (∀ k A B, J k A → Fr R A B → J k B) → (∀ k A B, Jx k A → Fr R A B → Jx k B) →
    (∀ k args W1, k < N → V k args W1 → J k W1 → YieldAt Fence.wide 3 P l args W1 fun e W' =>
      (e = .returned (.bool true) ∧ J (k + 1) W' ∧ Fr M W1 W') ∨ (e = .returned (.bool false) ∧ Jx k W' ∧ Fr M W1 W')) →
    J 0 W →
    CallsIn Fence.wide 3 P g (#[.func (.yield l) #[] #[]] ++ lb) W fun e W' => (∃ v, e = .returned v) ∧ (J N W' ∨ ∃ k, k < N ∧ Jx k W')

/-- How a round's body may be left. -/
def roundEnd (M : Nat → Prop) (I : Nat → World → Prop) (Ix : Code → Nat → World → Prop) (k : Nat) (W : World) : Exit → Act → World → Prop
  | .normal, _, W' => Fr M W W' ∧ I (k + 1) W'
  | .ret, _, W' => Fr M W W' ∧ Ix .ret k W'
  | .exit id, _, W' => Fr M W W' ∧ Ix (.exit id) k W'
  | .goto t, _, W' => Fr M W W' ∧ Ix (.goto t) k W'
  | .panic _, _, _ => False
  | .outgrown, _, _ => False

theorem CallsIn.wide_any {n m : Nat} {P : Program} {f : FuncId} {args : Array Value} {w : World} {R : Ending → World → Prop} (h : CallsIn Fence.wide n P f args w R) : CallsIn Fence.wide m P f args w R :=
  callsIn_wide.2 (callsIn_wide.1 h)
theorem RoundIn.wide_any {n m : Nat} {P : Program} {l : Nat} {f : FuncId} {tmps : Array Value} {assign body : Code} {w : World} {R : Ending → World → Prop}
    (h : RoundIn Fence.wide n P l f tmps assign body w R) : RoundIn Fence.wide m P l f tmps assign body w R :=
  ⟨h.1, fun c cs _ => h.2 c cs (room_wide _)⟩

theorem wp_range {P : Program} {n : Nat} {g : Operand} {ps : Array Tmp} {assign body : Code} {Q : Exit → Act → World → Prop} {a : Act} {w : World}
    {gf : Nat} {lb : Array Value} (hg : a.eval g = .func (.func gf) #[] lb) (eg : ∀ args w, (callFunc gf args).run P w = .ok (.enter gf args) w)
    (N : Nat) (V : Nat → Array Value → World → Prop) (M R : Nat → Prop) (hM : ¬ M w.heap.size ∧ ¬ M (w.heap.size + 1)) (hR : ¬ R w.heap.size ∧ ¬ R (w.heap.size + 1)) (hps : ∀ k x W, V k x W → x.size = ps.size)
    (hseq : ∀ o : Obj, SeqL P gf lb N V (fun k => M k ∨ k = w.heap.size ∨ k = w.heap.size + 1) R ((w.alloc (.deferred (some []))).alloc o))
    (I : Nat → World → Prop) (Ix : Code → Nat → World → Prop)
    (hI : ∀ k A B, I k A → Fr (fun j => R j ∨ j = w.heap.size ∨ j = w.heap.size + 1) A B → I k B)
    (hIx : ∀ c k A B, Ix c k A → Fr (fun j => R j ∨ j = w.heap.size ∨ j = w.heap.size + 1) A B → Ix c k B)
    (h0 : I 0 w)
    (hround : ∀ l k args W, k < N → V k args W → w.heap.size + 2 ≤ W.heap.size → I k W →
      assign.wpIn (Fence.wide.inRound l) 3 P (Exit.then (fun a₁ W₁ => Fr M W W₁ ∧ ∀ W₂, Fr (fun j => j = w.heap.size + 1) W₁ W₂ → body.wpIn (Fence.wide.inRound l) 3 P (roundEnd M I Ix k W₂) a₁ W₂) (fun _ _ _ => False))
        { tmps := (ps.zip args).foldl (fun t (p, v) => t.setIfInBounds p v) a.tmps, defers := [] } W)
    (hdone : ∀ W, w.heap.size + 2 ≤ W.heap.size → I N W → W.heap[w.heap.size]? = some (.deferred (some [])) → Q .normal { a with defers := { target := .collected w.heap.size, args := #[] } :: a.defers } W)
    (hstop : ∀ c k W, w.heap.size + 2 ≤ W.heap.size → k < N → Ix c k W → W.heap[w.heap.size]? = some (.deferred (some [])) → c.wpIn Fence.wide n P Q { a with defers := { target := .collected w.heap.size, args := #[] } :: a.defers } W) :
    (Code.rangeFunc g ps assign body).wpIn Fence.wide n P Q a w := by
  refine wpIn_rangeFunc ?_
  intro fn _
  obtain ⟨rec, hrec⟩ : ∃ rec : LoopState → Option Code → Loop, rec = fun st pe => { state := st, pending := pe, fn, tmps := a.tmps, params := ps, assign, body, defers := w.heap.size } := ⟨_, rfl⟩
  obtain ⟨W1, hW1⟩ : ∃ W1, (w.alloc (.deferred (some []))).alloc (.loop (rec .ready none)) = W1 := ⟨_, rfl⟩
  have hs1 : W1.heap.size = w.heap.size + 2 := by rw [← hW1]; simp
  have hL1 : W1.heap[w.heap.size + 1]? = some (.loop (rec .ready none)) := by
    rw [← hW1]; have := World.alloc_heap_new (w.alloc (.deferred (some []))) (.loop (rec .ready none)); rwa [World.size_alloc] at this
  have hK1 : W1.heap[w.heap.size]? = some (.deferred (some [])) := by
    rw [← hW1]; exact (Below.heap_alloc _ _ _ (by simp)).trans (World.alloc_heap_new w _)
  have hI1 : I 0 W1 := by rw [← hW1]; exact hI _ _ _ (hI _ _ _ h0 (Fr.alloc _ _ _)) (Fr.alloc _ _ _)
  -- the facts of book-keeping
  obtain ⟨Bk, hBk⟩ : ∃ Bk : Loop → World → Prop, Bk = fun r W => w.heap.size + 2 ≤ W.heap.size ∧ W.heap[w.heap.size + 1]? = some (.loop r) ∧ W.heap[w.heap.size]? = some (.deferred (some [])) := ⟨_, rfl⟩
  have bk_fr : ∀ {r A B} {T : Nat → Prop}, Bk r A → Fr T A B → ¬ T w.heap.size → ¬ T (w.heap.size + 1) → Bk r B := by
    rw [hBk]
    intro r A B T h hf h1 h2
    exact ⟨Nat.le_trans h.1 hf.size, (hf.block _ (by have := h.1; omega) h2).trans h.2.1, (hf.block _ (by have := h.1; omega) h1).trans h.2.2⟩
  have bk_put : ∀ {r A} (r' : Loop), Bk r A → Bk r' (A.putObj (w.heap.size + 1) (.loop r')) := by
    rw [hBk]
    intro r A r' h
    exact ⟨by simpa using h.1, World.putObj_heap_same (by have := h.1; omega), (World.putObj_heap_other (by omega)).trans h.2.2⟩
  have bk1 : Bk (rec .ready none) W1 := by rw [hBk]; exact ⟨by omega, hL1, hK1⟩
  refine ⟨w.heap.size + 1, [{ target := .collected w.heap.size, args := #[] }], W1, { target := .fn (.func gf) lb, args := #[.func (.yield (w.heap.size + 1)) #[] #[]] }, W1, gf,
    #[.func (.yield (w.heap.size + 1)) #[] #[]] ++ lb, W1, ?_, ?_, fun _ _ => trivial, ?_, fun h => by simp [Fence.wide] at h, ?_⟩
  · rw [← hW1, hrec]; exact run_enterLoop_outer _ _ _ _ _
  · simp only [resolve, hg]
    simp [go_sem]
  · simp [invoke, go_sem, eg]
  have hsq := hseq (.loop (rec .ready none))
  rw [hW1] at hsq
  refine CallsIn.mono (CallsIn.wide_any (hsq (w.heap.size + 1) (fun k W => I k W ∧ Bk (rec .ready none) W) (fun k W => ∃ c, Ix c k W ∧ Bk (rec .done (some c)) W)
    (fun k A B h hf => ⟨hI _ _ _ h.1 (hf.mono (fun _ h => .inl h)), bk_fr h.2 hf hR.1 hR.2⟩)
    (fun k A B h hf => by obtain ⟨c, hc, hb⟩ := h; exact ⟨c, hIx _ _ _ _ hc (hf.mono (fun _ h => .inl h)), bk_fr hb hf hR.1 hR.2⟩) ?_ ⟨hI1, bk1⟩)) ?_
  · -- one round
    rintro k args W hk hv ⟨hi, hb⟩
    have hb' := hb
    rw [hBk] at hb'
    obtain ⟨hsz, hl, hd⟩ := hb'
    have hy := run_yield (P := P) (args := args) hl (by rw [hrec]; exact hps _ _ _ hv)
    rw [hrec] at hy
    refine ⟨fn, _, assign, body, hy, RoundIn.wide_any (n := 3) (roundIn_of_wpIn (F := Fence.wide) trivial ?_)⟩
    refine wpIn_mono (hround (w.heap.size + 1) k args W hk hv hsz hi) ?_
    rintro e a1 Wa ha
    cases e with
    | normal =>
      obtain ⟨hfa, hbody⟩ := ha
      have hba : Bk (rec .ready none) Wa := bk_fr hb hfa hM.1 hM.2
      have hba' := hba
      rw [hBk] at hba'
      refine ⟨_, run_beginRound hba'.2.1 (by rw [hrec]), ?_⟩
      have hfb : Fr (fun j => j = w.heap.size + 1) Wa (Wa.putObj (w.heap.size + 1) (.loop { rec .ready none with state := .busy })) := Fr.putObj _ _ _ (.inl rfl)
      refine wpIn_mono (hbody _ hfb) ?_
      have hbb : Bk { rec .ready none with state := .busy } (Wa.putObj (w.heap.size + 1) (.loop { rec .ready none with state := .busy })) := bk_put _ hba
      have fin : ∀ (jump : Option Code) (W3 : World), Fr M (Wa.putObj (w.heap.size + 1) (.loop { rec .ready none with state := .busy })) W3 →
          (Instr.endRound (w.heap.size + 1) jump).run P W3 = .ok (.bool jump.isNone) (W3.putObj (w.heap.size + 1) (.loop (rec (if jump.isNone then .ready else .done) jump))) ∧
          Bk (rec (if jump.isNone then .ready else .done) jump) (W3.putObj (w.heap.size + 1) (.loop (rec (if jump.isNone then .ready else .done) jump))) ∧
          Fr (fun k => M k ∨ k = w.heap.size ∨ k = w.heap.size + 1) W (W3.putObj (w.heap.size + 1) (.loop (rec (if jump.isNone then .ready else .done) jump))) := fun jump W3 hf3 => by
        have hb3 : Bk { rec .ready none with state := .busy } W3 := bk_fr hbb hf3 hM.1 hM.2
        have hb3' := hb3
        rw [hBk] at hb3'
        have := run_endRound (P := P) jump hb3'.2.1
        refine ⟨?_, bk_put _ hb3, ?_⟩
        · rw [hrec] at this ⊢; exact this
        · exact (((hfa.mono (fun _ h => .inl h)).trans (hfb.mono (fun _ h => .inr (.inr h)))).trans (hf3.mono (fun _ h => .inl h))).trans (Fr.putObj _ _ _ (.inl (.inr (.inr rfl))))
      rintro e a3 W3 hp
      cases e with
      | normal =>
        obtain ⟨hf3, hi3⟩ := hp
        obtain ⟨hr, hb4, hf4⟩ := fin none W3 hf3
        exact ⟨_, _, hr, .inl ⟨rfl, ⟨hI _ _ _ hi3 (Fr.putObj _ _ _ (.inl (.inr (.inr rfl)))), hb4⟩, hf4⟩⟩
      | ret =>
        obtain ⟨hf3, hi3⟩ := hp
        obtain ⟨hr, hb4, hf4⟩ := fin (some .ret) W3 hf3
        exact ⟨_, _, hr, .inr ⟨rfl, ⟨.ret, hIx _ _ _ _ hi3 (Fr.putObj _ _ _ (.inl (.inr (.inr rfl)))), hb4⟩, hf4⟩⟩
      | exit id =>
        obtain ⟨hf3, hi3⟩ := hp
        obtain ⟨hr, hb4, hf4⟩ := fin (some (.exit id)) W3 hf3
        exact ⟨_, _, hr, .inr ⟨rfl, ⟨.exit id, hIx _ _ _ _ hi3 (Fr.putObj _ _ _ (.inl (.inr (.inr rfl)))), hb4⟩, hf4⟩⟩
      | goto t =>
        obtain ⟨hf3, hi3⟩ := hp
        obtain ⟨hr, hb4, hf4⟩ := fin (some (.goto t)) W3 hf3
        exact ⟨_, _, hr, .inr ⟨rfl, ⟨.goto t, hIx _ _ _ _ hi3 (Fr.putObj _ _ _ (.inl (.inr (.inr rfl)))), hb4⟩, hf4⟩⟩
      | panic ch => exact hp.elim
      | outgrown => exact hp.elim
    | exit id => exact ha.elim
    | goto t => exact ha.elim
    | ret => exact ha.elim
    | panic ch => exact ha.elim
    | outgrown => exact ha.elim
  · -- behind the iterator
    rintro e W2 ⟨⟨v, rfl⟩, (⟨hi, hb⟩ | ⟨k, hk, c, hi, hb⟩)⟩
    · have hb' := hb
      rw [hBk] at hb'
      refine ⟨none, _, by have := run_endLoop (P := P) hb'.2.1 (by rw [hrec]; simp); rw [hrec] at this; exact this, ?_⟩
      exact hdone _ (by simpa using hb'.1) (hI _ _ _ hi (Fr.putObj _ _ _ (.inl (.inr (.inr rfl))))) ((World.putObj_heap_other (by omega)).trans hb'.2.2)
    · have hb' := hb
      rw [hBk] at hb'
      refine ⟨some c, _, by have := run_endLoop (P := P) hb'.2.1 (by rw [hrec]; simp); rw [hrec] at this; exact this, ?_⟩
      exact hstop c k _ (by simpa using hb'.1) hk (hIx _ _ _ _ hi (Fr.putObj _ _ _ (.inl (.inr (.inr rfl))))) ((World.putObj_heap_other (by omega)).trans hb'.2.2)

#print axioms wp_range
end Go.Proofs.Ytnjmohdfnicpdaa.Rng
