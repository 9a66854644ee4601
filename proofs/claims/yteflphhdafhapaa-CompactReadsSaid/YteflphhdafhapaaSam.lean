/- same: of settings that are the same, it tells true. -/
import Derived.Test.YteflphhdafhapaaCwr
namespace Go.Proofs.Yteflphhdafhapaa.Rng
open Go.RowKit Go.Shelf Go.Proofs.YteflphhdafhapaaW.PrintWords Go.Proofs.YteflphhdafhapaaW.PrintMore Go.Proofs.YteflphhdafhapaaW.PrintLast
open Go.Proofs.Yteflphhdafhapaa.Ref
attribute [local go_sem high] eqA43

def of50 (x : S50) : Sg := ((x.f0.f0, x.f0.f1), x.f1)
theorem C_of50 {w : World} {A : Option Addr} {n : Nat} {l : List Sg} (h : Kd.C k50 w A n (l.map to50)) : kS.C w A n l := by
  have h := C_map (d' := kS) of50 rfl (fun _ _ _ h => h) h
  rwa [List.map_map, show (of50 ∘ to50) = id from rfl, List.map_id] at h

theorem keep7 {w X Y : World} {a b c d e f : Addr} {va vb vc vd ve vf : Value} (h : Below w.heap.size w X ∧ X.cell? a = some va ∧ X.cell? b = some vb ∧ X.cell? c = some vc ∧ X.cell? d = some vd ∧ X.cell? e = some ve ∧ X.cell? f = some vf) (hb : Below X.heap.size X Y) :
    Below w.heap.size w Y ∧ Y.cell? a = some va ∧ Y.cell? b = some vb ∧ Y.cell? c = some vc ∧ Y.cell? d = some vd ∧ Y.cell? e = some ve ∧ Y.cell? f = some vf :=
  ⟨below_step h.1 hb, pw_cell_below hb h.2.1, pw_cell_below hb h.2.2.1, pw_cell_below hb h.2.2.2.1, pw_cell_below hb h.2.2.2.2.1, pw_cell_below hb h.2.2.2.2.2.1, pw_cell_below hb h.2.2.2.2.2.2⟩
set_option maxRecDepth 100000 in
set_option maxHeartbeats 4000000 in
theorem same_true (A A2 : Option Addr) (c c2 : Nat) (l : List Sg) (w : World) (h1 : kS.C w A l.length l) (h2 : kS.C w A2 l.length l) (hl : l.length ≤ 1000000) :
    Calls Try.prog 13 #[.slice A l.length c, .slice A2 l.length c2] w fun e w' => e = .returned (.bool true) ∧ Below w.heap.size w w' := by
  have H1 := Aside0.mk h1
  have H2 := Aside0.mk h2
  obtain ⟨n, hn⟩ : ∃ n, l.length = n := ⟨_, rfl⟩
  have HN := Aside0.mk hn
  rw [hn] at hl ⊢
  clear h1 h2 hn
  go_enter Try.func13, Try.ntmps13
  go_wp2
  go_loopw [5] (fun i wr => ∃ k : Nat, k ≤ n ∧ i = .int .i64 k ∧ Aside0 (Below w.heap.size w wr)) (fun i _ => n - (intOf i).toNat)
  case atStart => exact ⟨0, Nat.zero_le _, rfl, ⟨Below.refl _ _⟩⟩
  case round =>
    obtain ⟨k, hk, rfl, HB⟩ := hrel
    by_cases hlt : k < n
    · obtain ⟨ad, B1, d1, rfl, x0, x1, x2, hl1, hC1⟩ := sg_at H1.out k (by rw [HN.out]; exact hlt)
      obtain ⟨ad', B2, d2, rfl, y0, y1, y2, hl2, hC2⟩ := sg_at H2.out k (by rw [HN.out]; exact hlt)
      obtain ⟨i0, hi0⟩ : ∃ i0, (l[k]?.getD zSg).1.1 = i0 := ⟨_, rfl⟩
      obtain ⟨i1, hi1⟩ : ∃ i1, (l[k]?.getD zSg).1.2 = i1 := ⟨_, rfl⟩
      obtain ⟨bs, hbs⟩ : ∃ bs, (l[k]?.getD zSg).2 = bs := ⟨_, rfl⟩
      rw [hi0] at x0 y0
      rw [hi1] at x1 y1
      rw [hbs] at x2 y2 hl1 hl2 hC1 hC2
      obtain ⟨m, hm⟩ : ∃ m, bs.length = m := ⟨_, rfl⟩
      rw [hm] at x2 y2 hl1 hl2 hC1 hC2
      have hcv1 : ∀ X, Below w.heap.size w X → (convert 25 9 (.slice B1 m d1)).run Try.prog X = .ok (.string (strOfNums bs)) X := fun X hX => str_at hC1 X hX
      have hcv2 : ∀ X, Below w.heap.size w X → (convert 25 9 (.slice B2 m d2)).run Try.prog X = .ok (.string (strOfNums bs)) X := fun X hX => str_at hC2 X hX
      have hS0 : Below w.heap.size w wr ∧ wr.cell? (ad.add (k * 3)) = some (.int .u16 i0) ∧ wr.cell? ⟨(ad.add (k * 3)).block, (ad.add (k * 3)).off + 1, none⟩ = some (.int .u8 i1) ∧ wr.cell? ⟨(ad.add (k * 3)).block, (ad.add (k * 3)).off + 2, none⟩ = some (.slice B1 m d1) ∧
          wr.cell? (ad'.add (k * 3)) = some (.int .u16 i0) ∧ wr.cell? ⟨(ad'.add (k * 3)).block, (ad'.add (k * 3)).off + 1, none⟩ = some (.int .u8 i1) ∧ wr.cell? ⟨(ad'.add (k * 3)).block, (ad'.add (k * 3)).off + 2, none⟩ = some (.slice B2 m d2) :=
        ⟨HB.out, pw_cell_below HB.out x0, pw_cell_below HB.out x1, pw_cell_below HB.out x2, pw_cell_below HB.out y0, pw_cell_below HB.out y1, pw_cell_below HB.out y2⟩
      clear x0 x1 x2 y0 y1 y2 hi0 hi1 hbs hm hC1 hC2 hl1 hl2
      go_wp2
      go_region_held3 (fun X => Below w.heap.size w X ∧ X.cell? (ad.add (k * 3)) = some (.int .u16 i0) ∧ X.cell? ⟨(ad.add (k * 3)).block, (ad.add (k * 3)).off + 1, none⟩ = some (.int .u8 i1) ∧ X.cell? ⟨(ad.add (k * 3)).block, (ad.add (k * 3)).off + 2, none⟩ = some (.slice B1 m d1) ∧
          X.cell? (ad'.add (k * 3)) = some (.int .u16 i0) ∧ X.cell? ⟨(ad'.add (k * 3)).block, (ad'.add (k * 3)).off + 1, none⟩ = some (.int .u8 i1) ∧ X.cell? ⟨(ad'.add (k * 3)).block, (ad'.add (k * 3)).off + 2, none⟩ = some (.slice B2 m d2))
        (first | assumption | exact keep7 hS0 (below_drew (Below.refl _ _)) | exact keep7 hS0 (pw_below_drewN (Below.refl _ _) _)) (fail)
      go_wp2
      refine ⟨⟨k + 1, by omega, by go_num, ⟨below_drew HB.out⟩⟩, by simp [intOf]; omega⟩
    · obtain rfl : k = n := by omega
      go_wp2
      go_ret
      exact ⟨rfl, HB.out⟩
end Go.Proofs.Yteflphhdafhapaa.Rng
