/- Gone of the bus (filled by fill.py). -/
import Derived.Test.YtnjmohdfnicpdaaHn
namespace Go.Proofs.Ytnjmohdfnicpdaa.Bus
open Go.RowKit Go.Shelf Go.Lib Go.Sort Go.Proofs.Ytnjmohdfnicpdaa.Frm Go.Proofs.Ytnjmohdfnicpdaa.Rng Go.Proofs.YtnjmohdfnicpdaaW.PrintWords Go.Proofs.YtnjmohdfnicpdaaW.PrintMore Go.Proofs.YtnjmohdfnicpdaaW.PrintLast

theorem cut_any {w : World} {g c n : Nat} {A : Option Addr} {l : List Sn} {N : Int} (h : BusAt w g (.slice A n c) l N) {m : Nat} (hm : m ≤ l.length) : Kd.R kSn 35 w 0 (fun k => k ≠ g) (.slice A m c) (l.take m) := by
  have hrow := h.row
  obtain ⟨hok, inner, ⟨hil0, ho⟩, hr⟩ := h.row
  rcases ho with ⟨h0, h1⟩ | ⟨gb, c', cur, he, hb0, hb, hlc, hmx, hsz, htake⟩
  · have h2 : l = [] := List.length_eq_zero_iff.1 h1
    subst h2
    obtain rfl : m = 0 := by simpa using hm
    obtain ⟨rfl, rfl, rfl⟩ : A = none ∧ n = 0 ∧ c = 0 := by
      simp at h0
      exact h0
    exact Kd.R_nil _ _ _ _ _
  · obtain ⟨rfl, rfl, rfl⟩ : A = some ⟨gb, 0, none⟩ ∧ n = l.length ∧ c = c' := by
      simp at he
      exact he
    have h3 := R_cut (l := l.take m) (m := l.drop m) (by rw [List.take_append_drop]; exact hrow)
    rwa [List.length_take, Nat.min_eq_left hm] at h3
set_option maxHeartbeats 4000000 in
set_option maxRecDepth 100000 in
theorem bgone_any (w : World) (g : Nat) (v : Value) (l : List Sn) (N : Int) (nd : Int) (h : BusAt w g v l N) (hl : l.length ≤ 100000) :
    Calls Try.prog 18 #[.pointer (some ⟨g, 0, none⟩), .int .i64 nd] w fun e w' => e = .returned (.int .i64 ((l.length - (l.filter (keepP nd)).length : Nat) : Int)) ∧ ∃ v' l', BusAt w' g v' l' N ∧ l'.Perm (l.filter (keepP nd)) ∧ Hp l' l'.length ∧ Turn g v v' w w' := by
  have HL := Aside0.mk h.lt
  have hbw := below_alloc (Below.refl w.heap.size w) (.cells #[.int .i64 nd] 3)
  have hnw := heap_alloc_new w (.cells #[.int .i64 nd] 3)
  obtain ⟨A, c, rfl, hlc⟩ := h.shape
  have hb0 := h.fr (Fr.of_below (M := fun _ => False) hbw) (fun h => h) (fun _ _ h => h)
  have HV := Aside0.mk h.vlt
  have hfl : (l.filter (keepP nd)).length ≤ l.length := List.length_filter_le ..
  have HW := Aside0.mk hbw
  have HB := Aside0.mk hb0
  have z0 := hb0.cell0
  have hD := Aside0.mk (delete_any _ g A c l N w.heap.size nd hb0 hl (blk_cell hnw 0) (fun e => by have := h.vlt _ e; omega))
  have hP := (List.filter_sublist (p := keepP nd) (l := l))
  have HK := Aside0.mk hfl
  obtain ⟨n, hn⟩ : ∃ n, l.length = n := ⟨_, rfl⟩
  obtain ⟨m, hm⟩ : ∃ m, (l.filter (keepP nd)).length = m := ⟨_, rfl⟩
  have HM := Aside0.mk hm
  have HN := Aside0.mk hn
  rw [hn] at hlc hl HV z0 hfl
  rw [hm] at hfl
  rw [hn, hm]
  rw [hn] at HB hD
  rw [hm] at hD
  have wr1 : IntKind.i64.wrap ((n : Int) - (m : Int)) = ((n - m : Nat) : Int) := by rw [IntKind.wrap_i64]; omega
  have wr0 : ((n : Int) - (m : Int)) = ((n - m : Nat) : Int) := by omega
  clear h hbw hnw hb0 hn hm hP
  go_enter Try.func18, Try.ntmps18
  go_wp2_with (fail)
  generalize w.alloc (.cells #[.int .i64 nd] 3) = W0 at HW HB hD z0 ⊢
  rw [← HN.out] at HB
  refine (len_any W0 g _ l N HB.out).mono ?_
  rintro e w2 ⟨rfl, hw2⟩
  have hw2 := hw2.symm
  subst hw2
  rw [HN.out] at HB ⊢
  go_wp2_with (fail)
  refine hD.out.mono ?_
  rintro e w2 ⟨l2, rfl, hb2, hl2, ht2, hf2⟩
  have z2 := hb2.cell0
  have zf := hb2.frozen 0
  have hcut := cut_any hb2 (m := m) (by have h1 := HN.out; have h2 := congrArg List.length ht2; omega)
  rw [ht2] at hcut
  have HB3 := Aside0.mk (bus_put hb2.blk hcut)
  have HT3 := Aside0.mk (show Turn g (.slice A n c) (.slice A m c) w (w2.setCell ⟨g, 0, none⟩ (.slice A m c)) from
    ⟨((Fr.of_below HW.out).trans (hf2.mono (fun k hk => .inr hk))).trans (Fr.setCell w2 ⟨g, 0, none⟩ _ (.inl (.inl rfl))), fun k hk => .inl (by rcases A with _ | a <;> exact hk)⟩)
  clear hD z0 hb2 hl2 ht2 hf2 hcut
  go_wp2_with (fail)
  generalize w2.setCell ⟨g, 0, none⟩ (.slice A m c) = W3 at HB3 HT3 ⊢
  refine (hinit_any W3 g _ _ N HB3.out (by rw [HM.out]; omega)).mono ?_
  rintro e w4 ⟨rfl, l4, hb4, hp4, hh4, ht4⟩
  have HB4 := Aside0.mk hb4
  have HP4 := Aside0.mk hp4
  have HH4 := Aside0.mk hh4
  have HT4 := Aside0.mk (HT3.out.trans ht4)
  have hl4 : l4.length = m := by rw [hp4.length_eq]; exact HM.out
  clear hb4 hp4 hh4 ht4 z2 zf
  go_wp2_with (fail)
  refine (len_any w4 g _ l4 N HB4.out).mono ?_
  rintro e w5 ⟨rfl, hw5⟩
  have hw5 := hw5.symm
  subst hw5
  rw [hl4]
  go_wp2_with (fail)
  go_ret
  exact ⟨rfl, _, l4, HB4.out, HP4.out, HH4.out, HT4.out⟩
end Go.Proofs.Ytnjmohdfnicpdaa.Bus
