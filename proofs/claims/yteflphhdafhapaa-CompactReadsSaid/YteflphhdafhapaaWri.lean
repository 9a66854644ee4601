/- compact.Write: settings as bytes. -/
import Derived.Test.YteflphhdafhapaaNum
import Derived.Test.YteflphhdafhapaaCat
import Derived.Deep.RegionHeld3
import Derived.Deep.DeepCutAuto
namespace Go.Proofs.Yteflphhdafhapaa.Rng
open Go.RowKit Go.Shelf Go.Proofs.YteflphhdafhapaaW.PrintWords Go.Proofs.YteflphhdafhapaaW.PrintMore

/-- A setting: its place, its bytes. -/
abbrev Sg := (Int × Int) × List Int
abbrev kS : Kd Sg := Kd.pair (Kd.pair (Kd.int .u16) (Kd.int .u8)) (Kd.slice 5 kB)
theorem kS_open {w : World} {x : Sg} {cs : List Value} (h : kS.K w x cs) : ∃ A2 c2, cs = [.int .u16 x.1.1, .int .u8 x.1.2, .slice A2 x.2.length c2] ∧ x.2.length ≤ c2 ∧ kB.C w A2 x.2.length x.2 := by
  obtain ⟨_, _, rfl, ⟨_, _, rfl, rfl, rfl⟩, ⟨A2, c2, rfl, l2, g2⟩⟩ := h
  exact ⟨A2, c2, rfl, l2, g2⟩
def zSg : Sg := ((0, 0), [])
theorem sg_at {w : World} {A : Option Addr} {n : Nat} {xs : List Sg} (h : kS.C w A n xs) (j : Nat) (hj : j < n) :
    ∃ ad A2 c2, A = some ad ∧ w.cell? (ad.add (j * 3)) = some (.int .u16 (xs[j]?.getD zSg).1.1) ∧ w.cell? ⟨(ad.add (j * 3)).block, (ad.add (j * 3)).off + 1, none⟩ = some (.int .u8 (xs[j]?.getD zSg).1.2) ∧
      w.cell? ⟨(ad.add (j * 3)).block, (ad.add (j * 3)).off + 2, none⟩ = some (.slice A2 (xs[j]?.getD zSg).2.length c2) ∧ (xs[j]?.getD zSg).2.length ≤ c2 ∧ kB.C w A2 (xs[j]?.getD zSg).2.length (xs[j]?.getD zSg).2 := by
  obtain ⟨ad, c, e, _, hK, hc0⟩ := Kd.C_get h zSg (j : Int) (by omega) (by omega)
  rw [Int.toNat_natCast, List.getD_eq_getElem?_getD] at *
  have hc : ∀ i u, c[i]? = some u → w.cell? (ad.add (j * 3 + i)) = some u := hc0
  obtain ⟨A2, c2, rfl, l2, g2⟩ := kS_open hK
  exact ⟨ad, A2, c2, e, hc 0 _ rfl, by rw [← add_field _ _ 1 (by omega)]; exact hc 1 _ rfl, by rw [← add_field _ _ 2 (by omega)]; exact hc 2 _ rfl, l2, g2⟩

def wOne (x : Sg) : List Int := numL (IntKind.i64.wrap x.1.1) 2 ++ [x.1.2] ++ numL x.2.length 4 ++ x.2
def wK (l : List Sg) (k : Nat) : List Int := numL l.length 4 ++ (l.take k).flatMap wOne
def wLen (l : List Sg) (k : Nat) : Nat := (wK l k).length
def bLen (l : List Sg) (k : Nat) : Nat := (l[k]?.getD zSg).2.length
/-- At setting k the bytes would be too many. -/
def wBad (l : List Sg) (k : Nat) : Prop := 4096 < bLen l k ∨ 262144 < wLen l k + 7 + bLen l k
theorem wK_succ (l : List Sg) (k : Nat) (h : k < l.length) : wK l (k + 1) = wK l k ++ wOne (l[k]?.getD zSg) := by
  unfold wK
  rw [List.take_add_one, List.getElem?_eq_getElem h, List.flatMap_append, List.append_assoc]
  simp only [Option.toList_some, List.flatMap_cons, List.flatMap_nil, List.append_nil, Option.getD_some]
theorem wOne_length (x : Sg) : (wOne x).length = 7 + x.2.length := by simp [wOne, numL_length]; omega
theorem info_bs : (Try.prog.info? 25).map (fun i => (i.zero, i.size, i.bytes)) = some (some (.slice none 0 0), 1, 24) := by kernel_rfl

/-- A value that reads as bytes. -/
def RdV (W : World) (v : Value) (s : List Int) : Prop := ∃ A c, v = .slice A s.length c ∧ s.length ≤ c ∧ kB.C W A s.length s
theorem RdV.below {W W' : World} {v : Value} {s : List Int} (h : RdV W v s) (hb : Below W.heap.size W W') : RdV W' v s := by
  obtain ⟨A, c, e, hl, hC⟩ := h
  exact ⟨A, c, e, hl, Kd.C_below hC hb⟩
theorem RdV.of_R {W : World} {e base : Nat} {ok : Nat → Prop} {v : Value} {s : List Int} (h : Kd.R kB e W base ok v s) : RdV W v s := Kd.R_reads h
/-- Byte slices in a row of their own. -/
theorem rows_lit {W : World} (vs : List Value) (ss : List (List Int)) (hl : vs.length = ss.length) (hm : ss.length ≤ 9223372036854775807)
    (h : ∀ (j : Nat) (v : Value) (s : List Int), vs[j]? = some v → ss[j]? = some s → RdV W v s) : Kd.C (Kd.slice 5 kB) (W.alloc (.cells vs.toArray 25)) (some ⟨W.heap.size, 0, none⟩) ss.length ss := by
  have hb : Below W.heap.size W (W.alloc (.cells vs.toArray 25)) := below_alloc (Below.refl _ _) _
  refine ⟨rfl, hm, fun _ => ⟨_, rfl, fun j p hj => ?_⟩⟩
  have hjl := (List.getElem?_eq_some_iff.1 hj).1
  obtain ⟨A, c, e, hle, hC⟩ := (h j vs[j] p (List.getElem?_eq_getElem (by omega)) hj).below hb
  refine ⟨[vs[j]], rfl, ⟨A, c, by rw [e], hle, hC⟩, fun i u hu => ?_⟩
  have hi : i = 0 := by
    cases i with
    | zero => rfl
    | succ i => simp at hu
  subst hi
  obtain rfl : vs[j] = u := by simpa using hu
  have ha : (⟨W.heap.size, 0, none⟩ : Addr).add (j * (Kd.slice 5 kB).sz + 0) = ⟨W.heap.size, j, none⟩ := by
    rw [show (Kd.slice 5 kB).sz = 1 from rfl, Nat.mul_one, Nat.add_zero]
    exact add_plain _ _
  rw [ha]
  simp only [World.cell?, World.alloc_heap_new]
  simp [show j < vs.length by omega]

theorem keep3 {W W' : World} {p q r : Addr} {a b c : Value} (hb : Below W.heap.size W W') (h : W.cell? p = some a ∧ W.cell? q = some b ∧ W.cell? r = some c) : W'.cell? p = some a ∧ W'.cell? q = some b ∧ W'.cell? r = some c :=
  ⟨pw_cell_below hb h.1, pw_cell_below hb h.2.1, pw_cell_below hb h.2.2⟩

theorem rdv_one (W : World) (x : Int) (e : TypeId) : RdV (W.alloc (.cells #[.int .u8 x] e)) (.slice (some ⟨W.heap.size, 0, none⟩) 1 1) [x] :=
  RdV.of_R (base := 0) (e := e) (ok := fun _ => True) (Kd.R_of_own (enc := Value.int .u8) (h1 := fun _ => rfl) (xs := [x]) (own_lit W 0 e .u8 [x] (Nat.zero_le _) (by simp)) (fun _ _ => trivial))
theorem five_of {W : World} {v0 v1 v2 v3 v4 : Value} {s0 s1 s2 s3 s4 : List Int} (h0 : RdV W v0 s0) (h1 : RdV W v1 s1) (h2 : RdV W v2 s2) (h3 : RdV W v3 s3) (h4 : RdV W v4 s4) :
    Kd.C (Kd.slice 5 kB) (W.alloc (.cells #[v0, v1, v2, v3, v4] 25)) (some ⟨W.heap.size, 0, none⟩) 5 [s0, s1, s2, s3, s4] := by
  refine rows_lit [v0, v1, v2, v3, v4] [s0, s1, s2, s3, s4] rfl (by simp) (fun j v s hv hs => ?_)
  match j, hv, hs with
  | 0, hv, hs => simp at hv hs; subst hv hs; exact h0
  | 1, hv, hs => simp at hv hs; subst hv hs; exact h1
  | 2, hv, hs => simp at hv hs; subst hv hs; exact h2
  | 3, hv, hs => simp at hv hs; subst hv hs; exact h3
  | 4, hv, hs => simp at hv hs; subst hv hs; exact h4
  | j + 5, hv, _ => simp at hv
theorem w_flat (l : List Sg) (k : Nat) (hk : k < l.length) (i0 i1 : Int) (m : Nat) (h0 : (l[k]?.getD zSg).1.1 = i0) (h1 : (l[k]?.getD zSg).1.2 = i1) (hm : (l[k]?.getD zSg).2.length = m) :
    [wK l k, numL (IntKind.i64.wrap i0) 2, [i1], numL (m : Int) 4, (l[k]?.getD zSg).2].flatten = wK l (k + 1) := by
  rw [wK_succ l k hk, wOne, h0, h1, hm]
  simp

theorem concat_five {w W : World} {g : Nat} {v0 v1 v2 v3 v4 a b c : Value} {p q r : Addr} {s0 s1 s2 s3 s4 : List Int} (hg : W.heap.size = g) (hB : Below w.heap.size w W)
    (h0 : RdV W v0 s0) (h1 : RdV W v1 s1) (h2 : RdV W v2 s2) (h3 : RdV W v3 s3) (h4 : RdV W v4 s4)
    (hk : W.cell? p = some a ∧ W.cell? q = some b ∧ W.cell? r = some c) (hl : [s0, s1, s2, s3, s4].flatten.length ≤ 70368744177664) :
    Calls Try.prog 18 #[.slice (some ⟨g, 0, none⟩) 5 5] (W.alloc (.cells #[v0, v1, v2, v3, v4] 25)) fun e w5 =>
      ∃ v5 : Value, e = .returned v5 ∧ Kd.R kB 5 w5 w.heap.size (fun _ => True) v5 [s0, s1, s2, s3, s4].flatten ∧ Below w.heap.size w w5 ∧ (w5.cell? p = some a ∧ w5.cell? q = some b ∧ w5.cell? r = some c) := by
  subst hg
  have hb5 := below_alloc (Below.refl W.heap.size W) (.cells #[v0, v1, v2, v3, v4] 25)
  have hB' := below_step hB hb5
  refine (concat_any _ 5 _ _ (five_of h0 h1 h2 h3 h4) hl).mono ?_
  rintro e w5 ⟨v5, rfl, hown5, hb6⟩
  exact ⟨v5, rfl, Kd.R_lower hown5 (below_size hB'), below_step hB' hb6, keep3 hb6 (keep3 hb5 hk)⟩

set_option maxRecDepth 100000 in
set_option maxHeartbeats 4000000 in
theorem write_any (A : Option Addr) (c : Nat) (l : List Sg) (w : World) (hr : kS.C w A l.length l) (hlen : l.length ≤ 1000000) :
    Calls Try.prog 8 #[.slice A l.length c] w fun e w' => ∃ v0_ : Value, ∃ r1 : List Int, ∃ r2 : Int, e = .returned (.tuple #[v0_, .int .i64 r2]) ∧ Kd.R kB 5 w' w.heap.size (fun _ => True) v0_ r1 ∧ Below w.heap.size w w' ∧
      (((∃ k, k < l.length ∧ wBad l k) ∧ r1 = [] ∧ r2 = 3) ∨ ((∀ k, k < l.length → ¬ wBad l k) ∧ r1 = wK l l.length ∧ r2 = 0)) := by
  have HR := Aside0.mk hr
  obtain ⟨n, hn⟩ : ∃ n, l.length = n := ⟨_, rfl⟩
  have HN := Aside0.mk hn
  rw [hn] at hlen
  rw [hn]
  clear hr hn
  go_enter Try.func8, Try.ntmps8
  go_wp2_with (go_at_call 17; refine (number_any _ 4 _ (by omega) (by omega)).mono ?_; rintro e w1 ⟨v1, rfl, hown, hb⟩; have HO := Aside0.mk hown; have HB := Aside0.mk hb; clear hown hb)
  go_loopw [4, 6, 12] (fun v _ i wr => ∃ k : Nat, k ≤ n ∧ i = .int .i64 k ∧ wLen l k ≤ 262144 ∧ Aside0 (Kd.R kB 5 wr w.heap.size (fun _ => True) v (wK l k)) ∧ Aside0 (Below w.heap.size w wr) ∧ Aside0 (∀ j, j < k → ¬ wBad l j)) (fun _ _ i _ => n - (intOf i).toNat)
  case atStart => exact ⟨0, Nat.zero_le _, rfl, by simp [wLen, wK, numL_length], ⟨by have h := HO.out; simpa [wK, HN.out] using h⟩, HB, ⟨fun j hj => by omega⟩⟩
  case round =>
    clear HO HB
    obtain ⟨k, hk, rfl, hL, HO, HB, HG⟩ := hrel
    by_cases hlt : k < n
    · obtain ⟨ad, A2, c2, rfl, hx0, hx1, hx2, hlc, hC2⟩ := sg_at HR.out k (by rw [HN.out]; exact hlt)
      have hy0 := pw_cell_below HB.out hx0
      have hy1 := pw_cell_below HB.out hx1
      have hy2 := pw_cell_below HB.out hx2
      have HC2 := Aside0.mk (Kd.C_below hC2 HB.out)
      obtain ⟨Av, cv, rfl, hvc, _⟩ := Kd.R_reads HO.out
      obtain ⟨L, hLL⟩ : ∃ L, (wK l k).length = L := ⟨_, rfl⟩
      obtain ⟨m, hm⟩ : ∃ m, (l[k]?.getD zSg).2.length = m := ⟨_, rfl⟩
      have hL2 : wLen l k = L := hLL
      have hm2 : bLen l k = m := hm
      rw [hL2] at hL
      rw [hm] at hy2
      rw [hLL]
      have HL := Aside0.mk hLL
      have HM := Aside0.mk hm
      have HLC := Aside0.mk hlc
      clear hx0 hx1 hx2 hC2 hvc hlc hLL hm hL2 hm2
      by_cases h1 : 4096 < m
      · go_wp2
        go_ret2
        exact ⟨_, [], 3, rfl, Kd.R_nil _ _ _ _ _, below_alloc HB.out _, .inl ⟨⟨k, hlt, .inl (by show 4096 < (l[k]?.getD zSg).2.length; rw [HM.out]; exact h1)⟩, rfl, rfl⟩⟩
      · by_cases h2 : 262144 < L + 7 + m
        · go_wp2
          go_ret2
          exact ⟨_, [], 3, rfl, Kd.R_nil _ _ _ _ _, below_alloc HB.out _, .inl ⟨⟨k, hlt, .inr (by show 262144 < (wK l k).length + 7 + (l[k]?.getD zSg).2.length; rw [HM.out, HL.out]; exact h2)⟩, rfl, rfl⟩⟩
        · go_wp2
          obtain ⟨i0, hi0⟩ : ∃ i0, (l[k]?.getD zSg).1.1 = i0 := ⟨_, rfl⟩
          obtain ⟨i1, hi1⟩ : ∃ i1, (l[k]?.getD zSg).1.2 = i1 := ⟨_, rfl⟩
          rw [hi0, hi1]
          have HI0 := Aside0.mk hi0
          have HI1 := Aside0.mk hi1
          obtain ⟨W0, hW0⟩ : ∃ W0, wr.alloc (.cells #[.int .u16 i0, .int .u8 i1, .slice A2 m c2] 45) = W0 := ⟨_, rfl⟩
          have hg0 : W0.heap[wr.heap.size]? = some (.cells #[.int .u16 i0, .int .u8 i1, .slice A2 m c2] 45 (0, 0)) := by rw [← hW0]; exact World.alloc_heap_new wr _
          have hbw : Below wr.heap.size wr W0 := by rw [← hW0]; exact below_alloc (Below.refl _ _) _
          rw [hW0]
          obtain ⟨g, hg⟩ : ∃ g, wr.heap.size = g := ⟨_, rfl⟩
          rw [hg] at hg0 ⊢
          have z0 : W0.cell? ⟨g, 0, none⟩ = some (.int .u16 i0) := by simp [World.cell?, hg0]
          have z1 : W0.cell? ⟨g, 1, none⟩ = some (.int .u8 i1) := by simp [World.cell?, hg0]
          have z2 : W0.cell? ⟨g, 2, none⟩ = some (.slice A2 m c2) := by simp [World.cell?, hg0]
          have HB0 := Aside0.mk (below_step HB.out hbw)
          have HV := Aside0.mk (show RdV W0 (.slice Av L cv) (wK l k) by have h := RdV.of_R (Kd.R_below HO.out hbw); rwa [HL.out] at h)
          have HFL := Aside0.mk (w_flat l k (by rw [HN.out]; exact hlt) i0 i1 m hi0 hi1 HM.out)
          have HLN := Aside0.mk (show (wK l (k + 1)).length ≤ 70368744177664 by rw [wK_succ l k (by rw [HN.out]; exact hlt), List.length_append, wOne_length, HL.out, HM.out]; omega)
          have HX := Aside0.mk (RdV.below (W := wr) (v := .slice A2 m c2) (s := (l[k]?.getD zSg).2) ⟨A2, c2, by rw [HM.out], HLC.out, HC2.out⟩ hbw)
          clear hi0 hi1 hW0 hg0 hbw hg HO HB HC2 HLC hy0 hy1 hy2
          go_region_held3 (fun W => W.cell? ⟨g, 0, none⟩ = some (.int .u16 i0) ∧ W.cell? ⟨g, 1, none⟩ = some (.int .u8 i1) ∧ W.cell? ⟨g, 2, none⟩ = some (.slice A2 m c2)) (first | assumption | go_keep)
            (first
              | (go_at_call_of 17 (Value.int IntKind.i64 (IntKind.i64.wrap i0)); refine (number_any _ 2 _ (by omega) (by omega)).mono ?_; rintro e w2 ⟨v2, rfl, hown2, hb2⟩; obtain ⟨D2, d2, rfl, hdl2, hdC2⟩ := Kd.R_reads hown2; clear hdl2 hdC2; have HV2 := Aside0.mk (RdV.of_R hown2); have HB2 := Aside0.mk hb2; have hk2 := keep3 hb2 (by assumption); clear hown2 hb2)
              | (go_at_call_of 17 (Value.int IntKind.i64 (m : Int)); refine (number_any _ 4 _ (by omega) (by omega)).mono ?_; rintro e w4 ⟨v4, rfl, hown4, hb4⟩; obtain ⟨D4, d4, rfl, hdl4, hdC4⟩ := Kd.R_reads hown4; clear hdl4 hdC4; have HV4 := Aside0.mk (RdV.of_R hown4); have HB4 := Aside0.mk hb4; have hk4 := keep3 hb4 (by assumption); clear hown4 hb4)
              | (go_at_call 18
                 go_must (refine (concat_five (w := w) (p := ⟨g, 0, none⟩) (q := ⟨g, 1, none⟩) (r := ⟨g, 2, none⟩) (a := .int .u16 i0) (b := .int .u8 i1) (c := .slice A2 m c2) (s0 := wK l k) (s1 := numL (IntKind.i64.wrap i0) 2) (s2 := [i1]) (s3 := numL (m : Int) 4) (s4 := (l[k]?.getD zSg).2) ?_ ?_ ?_ ?_ ?_ ?_ ?_ ?_ ?_).mono ?_)
                 · simp
                 · repeat (first | exact HB0.out | refine below_step ?_ HB4.out | refine below_step ?_ HB2.out | refine below_alloc ?_ _ | refine below_drew ?_)
                 · repeat (first | exact HV.out | exact HX.out | exact HV2.out | exact HV4.out | exact rdv_one _ _ _ | refine RdV.below ?_ HB4.out | refine RdV.below ?_ HB2.out | refine RdV.below ?_ (below_alloc (Below.refl _ _) _) | refine RdV.below ?_ (below_drew (Below.refl _ _)))
                 · repeat (first | exact HV.out | exact HX.out | exact HV2.out | exact HV4.out | exact rdv_one _ _ _ | refine RdV.below ?_ HB4.out | refine RdV.below ?_ HB2.out | refine RdV.below ?_ (below_alloc (Below.refl _ _) _) | refine RdV.below ?_ (below_drew (Below.refl _ _)))
                 · repeat (first | exact HV.out | exact HX.out | exact HV2.out | exact HV4.out | exact rdv_one _ _ _ | refine RdV.below ?_ HB4.out | refine RdV.below ?_ HB2.out | refine RdV.below ?_ (below_alloc (Below.refl _ _) _) | refine RdV.below ?_ (below_drew (Below.refl _ _)))
                 · repeat (first | exact HV.out | exact HX.out | exact HV2.out | exact HV4.out | exact rdv_one _ _ _ | refine RdV.below ?_ HB4.out | refine RdV.below ?_ HB2.out | refine RdV.below ?_ (below_alloc (Below.refl _ _) _) | refine RdV.below ?_ (below_drew (Below.refl _ _)))
                 · repeat (first | exact HV.out | exact HX.out | exact HV2.out | exact HV4.out | exact rdv_one _ _ _ | refine RdV.below ?_ HB4.out | refine RdV.below ?_ HB2.out | refine RdV.below ?_ (below_alloc (Below.refl _ _) _) | refine RdV.below ?_ (below_drew (Below.refl _ _)))
                 · first | assumption | go_keep
                 · rw [HFL.out]; exact HLN.out
                 rintro e w5 ⟨v5, rfl, hown5, hb5, hk5⟩
                 have HO5 := Aside0.mk hown5
                 have HB5 := Aside0.mk hb5
                 clear hown5 hb5))
          go_wp2
          all_goals
            refine ⟨⟨k + 1, by omega, by go_num, ?_, ⟨by rw [← HFL.out]; exact HO5.out⟩, HB5, ⟨fun j hj => ?_⟩⟩, by simp [intOf]; omega⟩
            · show (wK l (k + 1)).length ≤ 262144
              rw [wK_succ l k (by rw [HN.out]; exact hlt), List.length_append, wOne_length, HL.out, HM.out]; omega
            · rcases Nat.lt_or_eq_of_le (Nat.le_of_lt_succ hj) with h | rfl
              · exact HG.out j h
              · rintro (h | h)
                · have : 4096 < (l[j]?.getD zSg).2.length := h
                  rw [HM.out] at this; omega
                · have : 262144 < (wK l j).length + 7 + (l[j]?.getD zSg).2.length := h
                  rw [HM.out, HL.out] at this; omega
    · obtain rfl : k = n := by omega
      go_wp2
      go_ret2
      exact ⟨_, _, 0, rfl, HO.out, HB.out, .inr ⟨HG.out, rfl, rfl⟩⟩
end Go.Proofs.Yteflphhdafhapaa.Rng
