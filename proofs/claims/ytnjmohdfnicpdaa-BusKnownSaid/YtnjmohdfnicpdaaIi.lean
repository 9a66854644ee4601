/- What has come, and what waits: plainly. -/
import Derived.Test.YtnjmohdfnicpdaaId
namespace Go.Proofs.Ytnjmohdfnicpdaa.Bus
open Go.RowKit Go.Shelf Go.Lib Go.Sort Go.Proofs.Ytnjmohdfnicpdaa.Frm Go.Proofs.Ytnjmohdfnicpdaa.Rng

/-- Of one identifier and kind? -/
def like (a b : Sn) : Bool := a.id == b.id && a.rem == b.rem
theorem like_iff {a b : Sn} : like a b = true ↔ a.id = b.id ∧ a.rem = b.rem := by simp [like]
/-- What has come, and what waits, of so many sent. -/
structure Once (come l : List Sn) (N : Int) : Prop where
  bnd : ∀ x, x ∈ come ∨ x ∈ l → 0 ≤ x.num ∧ x.num < N
  dst : (come ++ l).Pairwise (fun a b => a.num ≠ b.num)
  cnt : ((come.length + l.length : Nat) : Int) = N
  key : ∀ c ∈ come, ∀ y ∈ l, like c y = true → c.num < y.num
  ord : come.Pairwise (fun a b => like a b = true → a.num < b.num)
theorem Once.nil : Once [] [] 0 := ⟨fun x h => (by rcases h with h | h <;> cases h), List.Pairwise.nil, rfl, fun c h => (by cases h), List.Pairwise.nil⟩
theorem Once.n0 {come l : List Sn} {N : Int} (h : Once come l N) : 0 ≤ N := by have := h.cnt; omega
theorem Once.perm {come l l' : List Sn} {N : Int} (h : Once come l N) (hp : l'.Perm l) : Once come l' N :=
  ⟨fun x hx => h.bnd x (hx.imp id (fun h2 => hp.mem_iff.1 h2)), ((hp.append_left come).pairwise_iff (fun {a b} hab => fun e => hab e.symm)).2 h.dst, by rw [hp.length_eq]; exact h.cnt, fun c hc y hy => h.key c hc y (hp.mem_iff.1 hy), h.ord⟩
theorem Once.send {come l l' : List Sn} {N : Int} {x : Sn} (h : Once come l N) (hx : x.num = N) (hp : l'.Perm (l ++ [x])) : Once come l' (N + 1) := by
  refine Once.perm (l := l ++ [x]) ?_ hp
  have hne : ∀ y, y ∈ come ∨ y ∈ l → y.num < x.num := fun y hy => by have := (h.bnd y hy).2; omega
  have h0 := h.n0
  refine ⟨fun y hy => ?_, ?_, by rw [List.length_append, List.length_singleton]; have := h.cnt; omega, fun c hc y hy hl => ?_, h.ord⟩
  · rcases hy with hy | hy
    · have := h.bnd y (.inl hy); omega
    · rcases List.mem_append.1 hy with hy | hy
      · have := h.bnd y (.inr hy); omega
      · rw [List.mem_singleton] at hy
        rw [hy]
        omega
  · rw [← List.append_assoc, List.pairwise_append]
    refine ⟨h.dst, by simp, fun a ha b hb => ?_⟩
    rw [List.mem_singleton] at hb
    rw [hb]
    have := hne a (List.mem_append.1 ha)
    omega
  · rcases List.mem_append.1 hy with hy | hy
    · exact h.key c hc y hy hl
    · rw [List.mem_singleton] at hy
      rw [hy]
      exact hne c (.inl hc)
theorem Once.next {come l l' : List Sn} {N : Int} {x : Sn} (h : Once come l N) (hp : Hp l l.length) (hx : x = nth l 0) (hq : (x :: l').Perm l) : Once (come ++ [x]) l' N ∧ ∀ y ∈ l', ¬ y.id < x.id := by
  have hno : ∀ y ∈ l', aheadC y x = false := fun y hy => by
    obtain ⟨k, hk, hky⟩ := List.getElem_of_mem (hq.mem_iff.1 (List.mem_cons_of_mem x hy))
    have := hp.first k hk
    rw [nth_get hk, hky] at this
    rw [hx]
    exact this
  have h1 := h.perm hq
  have hd := h1.dst
  rw [List.pairwise_append] at hd
  have hd2 := List.pairwise_cons.1 hd.2.1
  refine ⟨⟨fun y hy => h1.bnd y ?_, ?_, ?_, fun c hc y hy hl => ?_, ?_⟩, fun y hy hlt => ?_⟩
  · rcases hy with hy | hy
    · rcases List.mem_append.1 hy with hy | hy
      · exact .inl hy
      · rw [List.mem_singleton] at hy
        exact .inr (by rw [hy]; exact List.mem_cons_self)
    · exact .inr (List.mem_cons_of_mem _ hy)
  · rw [List.append_assoc]
    exact h1.dst
  · have := h1.cnt
    rw [List.length_append, List.length_singleton]
    simp only [List.length_cons] at this
    omega
  · rcases List.mem_append.1 hc with hc | hc
    · exact h1.key c hc y (List.mem_cons_of_mem _ hy) hl
    · rw [List.mem_singleton] at hc
      subst hc
      have h2 := hno y hy
      rw [ahead_not] at h2
      obtain ⟨h3, h4⟩ := like_iff.1 hl
      have h5 := hd2.1 y hy
      have h6 : rb y.rem = rb c.rem := by rw [h4]
      omega
  · rw [List.pairwise_append]
    refine ⟨h1.ord, by simp, fun a ha b hb hl => ?_⟩
    rw [List.mem_singleton] at hb
    subst hb
    exact h1.key a ha b List.mem_cons_self hl
  · have h2 := hno y hy
    rw [ahead_not] at h2
    omega
end Go.Proofs.Ytnjmohdfnicpdaa.Bus
