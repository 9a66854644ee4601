/- Bridges between the printed words' rows and the plain reading of bytes. -/
import Derived.Test.YteflphhdafhapaaBack
import Derived.Test.YteflphhdafhapaaWWords
import Derived.Test.YteflphhdafhapaaWMore
import Derived.WalkSpells
namespace Go.Proofs.Yteflphhdafhapaa.Rng
open Go.RowKit Go.Shelf Go.Proofs.YteflphhdafhapaaW.PrintWords Go.Proofs.YteflphhdafhapaaW.PrintMore

abbrev kB : Kd Int := Kd.int .u8
theorem C_Rd {w : World} {A : Option Addr} {zs : List Int} (h : kB.C w A zs.length zs) : Rd w A zs := by
  obtain ⟨_, h1, h2⟩ := Kd.reads_of_C (enc := Value.int .u8) (d := (0 : Int)) (h1 := fun _ => rfl) h
  refine ⟨h1, fun hn => ?_⟩
  obtain ⟨ad, e, hc⟩ := h2 hn
  exact ⟨ad, e, fun j hj => by rw [hc j hj, List.getD_eq_getElem?_getD]⟩
theorem Rd_C {w : World} {A : Option Addr} {zs : List Int} (h : Rd w A zs) : kB.C w A zs.length zs := by
  refine ⟨rfl, h.1, fun hn => ?_⟩
  obtain ⟨ad, e, hc⟩ := h.2 hn
  refine ⟨ad, e, fun j p hj => ⟨[.int .u8 p], rfl, rfl, fun i u hu => ?_⟩⟩
  have hjl := (List.getElem?_eq_some_iff.1 hj).1
  cases i with
  | zero => simp at hu; subst hu; have := hc j hjl; rw [hj] at this; simpa [Kd.int, Kd.scalar] using this
  | succ i => simp at hu
/-- What is read lies below the heap's size. -/
theorem Rd.off {w : World} {A : Option Addr} {zs : List Int} (h : Rd w A zs) : Off (fun k => w.heap.size ≤ k) A zs.length := by
  intro ad e hn hk
  obtain ⟨ad', e', hc⟩ := h.2 hn
  rw [e] at e'
  obtain rfl := Option.some.inj e'
  have h0 := World.block_lt_of_cell? _ _ (hc 0 hn)
  rw [add_block] at h0
  omega
theorem Rd.nil_ {w : World} {zs : List Int} (h : Rd w none zs) : zs = [] := by
  rcases Nat.eq_zero_or_pos zs.length with h0 | h0
  · exact List.eq_nil_of_length_eq_zero h0
  · obtain ⟨ad, e, _⟩ := h.2 h0
    cases e
theorem info_u8 : (Try.prog.info? 5).map (fun i => (i.zero, i.size, i.bytes)) = some (some (.int .u8 0), 1, 1) := by kernel_rfl

set_option maxRecDepth 100000 in
set_option maxHeartbeats 1000000 in
theorem clone_nil (w : World) (c : Nat) :
    Calls Try.prog 26 #[.slice none 0 c] w fun e w' => e = .returned (.slice none 0 0) ∧ w = w' := by
  have hn := Lib.run_eql_slice_nil (P := Try.prog)
  go_enter Try.func26, Try.ntmps26
  go_wp2
  go_ret
  exact ⟨rfl, rfl⟩
theorem own_none (W : World) (e : TypeId) (base : Nat) (hb : base ≤ W.heap.size) : Kd.R kB e (W.alloc (.cells #[] e)) base (fun k => base ≤ k) (.slice (some ⟨W.heap.size, 0, none⟩) 0 0) [] := by
  have h := own_lit W base e .u8 [] hb (by simp)
  exact Kd.R_of_own (enc := Value.int .u8) (h1 := fun _ => rfl) (xs := ([] : List Int)) h (fun k hk => by simp [Value.ownBlock] at hk; omega)
set_option maxRecDepth 100000 in
set_option maxHeartbeats 1000000 in
theorem clone_some (ad : Addr) (c : Nat) (l : List Int) (w : World) (hr : kB.C w (some ad) l.length l) (hl : l.length ≤ 140737488355328) :
    Calls Try.prog 26 #[.slice (some ad) l.length c] w fun e w' => ∃ v0_ : Value, e = .returned v0_ ∧ Kd.R kB 5 w' w.heap.size (fun _ => True) v0_ l ∧ Below w.heap.size w w' := by
  have hn := Lib.run_eql_slice_nil (P := Try.prog)
  have HR := Aside0.mk hr
  clear hr
  go_enter Try.func26, Try.ntmps26
  go_wp2_with ((with_reducible refine gate_dst (N := 7) rfl ?_); refine Kd.R_append_row (Value.int .u8) (0 : Int) (h1 := fun _ => rfl) (w0 := w) w.heap.size rfl _ _ _ 5 (.int .u8 0) 1 rfl Try.underlying25 info_u8 rfl (by decide) _ [] l (some ad) l.length c (fun k => w.heap.size ≤ k) rfl rfl (fun k hk => by simp at hk; omega) (own_none w _ _ (Nat.le_refl _)) (Kd.C_below HR.out (below_alloc (Below.refl _ _) _)) (below_alloc (Below.refl _ _) _) (by simp) (by simpa using hl) ?_; intro v1 w1 hown hb hg hat; have HO := Aside0.mk hown; have HB := Aside0.mk hb; clear hown hb hg hat hl)
  go_ret
  exact ⟨v1, rfl, Kd.R_mono (d := kB) (xs := l) HO.out (fun _ _ => trivial), HB.out⟩
/-- bytes.Clone: the same bytes, in a row of the call's own. -/
theorem clone_any (A : Option Addr) (c : Nat) (l : List Int) (w : World) (hr : kB.C w A l.length l) (hl : l.length ≤ 140737488355328) :
    Calls Try.prog 26 #[.slice A l.length c] w fun e w' => ∃ v0_ : Value, e = .returned v0_ ∧ Kd.R kB 5 w' w.heap.size (fun _ => True) v0_ l ∧ Below w.heap.size w w' := by
  cases A with
  | none =>
    obtain rfl := (C_Rd hr).nil_
    exact (clone_nil w c).mono fun e w' ⟨he, hw⟩ => ⟨_, he, hw ▸ Kd.R_nil _ _ _ _ _, hw ▸ Below.refl _ _⟩
  | some ad => exact clone_some ad c l w hr hl
end Go.Proofs.Yteflphhdafhapaa.Rng
