/- Rows of bytes: reading them; clones of them. -/
import Derived.Test.YtcgcghldgomelaaGreatDoorBack
import Derived.Test.YtcgcghldgomelaaGreatDoorWWords
import Derived.Test.YtcgcghldgomelaaGreatDoorWMore
import Derived.WalkSpells
namespace Go.Proofs.YtcgcghldgomelaaGreatDoor.Rng
open Go.RowKit Go.Shelf Go.Proofs.YtcgcghldgomelaaGreatDoorW.PrintWords Go.Proofs.YtcgcghldgomelaaGreatDoorW.PrintMore

abbrev kB : Kd Int := Kd.int .u8
theorem C_Rd {w : World} {A : Option Addr} {zs : List Int} (h : kB.C w A zs.length zs) : Rd w A zs := by
  obtain ⟨_, h1, h2⟩ := Kd.reads_of_C (enc := Value.int .u8) (d := (0 : Int)) (h1 := fun _ => rfl) h
  refine ⟨h1, fun hn => ?_⟩
  obtain ⟨ad, e, hc⟩ := h2 hn
  exact ⟨ad, e, fun j hj => by rw [hc j hj, List.getD_eq_getElem?_getD]⟩
theorem Rd_C {w : World} {A : Option Addr} {zs : List Int} (h : Rd w A zs) : kB.C w A zs.length zs := by
  refine ⟨rfl, h.1, fun hn => ?_⟩
  obtain ⟨ad, e, hc⟩ := h.2 hn
  refine ⟨ad, e, fun j p hj => ⟨[.int .u8 p], rfl, rfl, fun i u hu => ?_⟩⟩
  have hjl := (List.getElem?_eq_some_iff.1 hj).1
  cases i with
  | zero => simp at hu; subst hu; have := hc j hjl; rw [hj] at this; simpa [Kd.int, Kd.scalar] using this
  | succ i => simp at hu
/-- What is read lies below the heap's size. -/
theorem Rd.off {w : World} {A : Option Addr} {zs : List Int} (h : Rd w A zs) : Off (fun k => w.heap.size ≤ k) A zs.length := by
  intro ad e hn hk
  obtain ⟨ad', e', hc⟩ := h.2 hn
  rw [e] at e'
  obtain rfl := Option.some.inj e'
  have h0 := World.block_lt_of_cell? _ _ (hc 0 hn)
  rw [add_block] at h0
  omega
theorem Rd.nil_ {w : World} {zs : List Int} (h : Rd w none zs) : zs = [] := by
  rcases Nat.eq_zero_or_pos zs.length with h0 | h0
  · exact List.eq_nil_of_length_eq_zero h0
  · obtain ⟨ad, e, _⟩ := h.2 h0
    cases e
theorem Rd.none (w : World) : Rd w none [] := ⟨by simp, fun h => by simp at h⟩
theorem Rd.nil (w : World) (A : Option Addr) : Rd w A [] := ⟨by simp, fun h => by simp at h⟩
theorem info_u8 : (Tryz.prog.info? 5).map (fun i => (i.zero, i.size, i.bytes)) = some (some (.int .u8 0), 1, 1) := by kernel_rfl

/-- A value that reads as bytes. -/
def RdV (W : World) (v : Value) (s : List Int) : Prop := ∃ A c, v = .slice A s.length c ∧ s.length ≤ c ∧ Rd W A s
theorem RdV.nil (W : World) : RdV W (.slice none 0 0) [] := ⟨_, _, rfl, Nat.le_refl _, Rd.none W⟩
theorem Rd.below {W W' : World} {A : Option Addr} {s : List Int} (h : Rd W A s) (hb : Below W.heap.size W W') : Rd W' A s :=
  h.fr (M := fun k => W.heap.size ≤ k) (Fr.of_below hb) h.off
theorem RdV.below {W W' : World} {v : Value} {s : List Int} (h : RdV W v s) (hb : Below W.heap.size W W') : RdV W' v s := by
  obtain ⟨A, c, e, hl, hC⟩ := h
  exact ⟨A, c, e, hl, hC.below hb⟩
/-- No block of M holds a byte. -/
def NoByte (w : World) (M : Nat → Prop) : Prop := ∀ p x, M p.block → w.cell? p ≠ some (.int .u8 x)
theorem Rd.offM {M : Nat → Prop} {W : World} {A : Option Addr} {s : List Int} (h : Rd W A s) (hM : NoByte W M) : Off M A s.length := by
  intro ad e hn hk
  obtain ⟨ad', e', hc⟩ := h.2 hn
  rw [e] at e'
  obtain rfl := Option.some.inj e'
  exact hM (ad.add 0) _ (by rw [add_block]; exact hk) (hc 0 hn)
theorem Rd.frM {M : Nat → Prop} {W W' : World} {A : Option Addr} {s : List Int} (h : Rd W A s) (hf : Fr M W W') (hM : NoByte W M) : Rd W' A s := h.fr hf (h.offM hM)
theorem RdV.fr {M : Nat → Prop} {W W' : World} {v : Value} {s : List Int} (h : RdV W v s) (hf : Fr M W W') (hM : NoByte W M) : RdV W' v s := by
  obtain ⟨A, c, e, hl, hC⟩ := h
  exact ⟨A, c, e, hl, hC.frM hf hM⟩
theorem RdV.of_R {W : World} {e base : Nat} {ok : Nat → Prop} {v : Value} {s : List Int} (h : Kd.R kB e W base ok v s) : RdV W v s := by
  obtain ⟨A, c, e, hl, hC⟩ := Kd.R_reads h
  exact ⟨A, c, e, hl, C_Rd hC⟩
theorem RdV.len {W : World} {v : Value} {s : List Int} (h : RdV W v s) : s.length ≤ 9223372036854775807 := by
  obtain ⟨_, _, _, _, hC⟩ := h
  exact hC.1
theorem own_none (W : World) (e : TypeId) (base : Nat) (hb : base ≤ W.heap.size) : Kd.R kB e (W.alloc (.cells #[] e)) base (fun k => base ≤ k) (.slice (some ⟨W.heap.size, 0, none⟩) 0 0) [] := by
  have h := own_lit W base e .u8 [] hb (by simp)
  exact Kd.R_of_own (enc := Value.int .u8) (h1 := fun _ => rfl) (xs := ([] : List Int)) h (fun k hk => by simp [Value.ownBlock] at hk; omega)
end Go.Proofs.YtcgcghldgomelaaGreatDoor.Rng
