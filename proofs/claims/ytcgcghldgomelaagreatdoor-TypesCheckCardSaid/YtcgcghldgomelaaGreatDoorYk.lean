/- TypesCheck, walked. -/
import Derived.Test.YtcgcghldgomelaaGreatDoorYe
import Derived.Test.YtcgcghldgomelaaGreatDoorRp
namespace Go.Proofs.YtcgcghldgomelaaGreatDoor.Mp
open Go.RowKit Go.Shelf Go.Proofs.YtcgcghldgomelaaGreatDoor.Rng Go.Proofs.YtcgcghldgomelaaGreatDoorW.PrintWords Go.Proofs.YtcgcghldgomelaaGreatDoorW.PrintMore Go.Proofs.YtcgcghldgomelaaGreatDoorW.PrintLast

theorem arg_of_R {w : World} {e base : Nat} {ok : Nat → Prop} {v : Value} {a : List Int} (h : Kd.R kB e w base ok v a) (hb : Byt a) : ∃ A c, v = .slice A a.length c ∧ Arg w A c a := by
  obtain ⟨A, c, he, hl, hC⟩ := Kd.R_reads h
  refine ⟨A, c, he, ⟨C_Rd hC, hb, hl, ?_⟩⟩
  have hmx : maxLen = 9223372036854775807 := rfl
  obtain ⟨_, vs, hown, _⟩ := h
  rcases hown.2 with ⟨e1, _⟩ | ⟨g, cap, cur, e1, _, _, _, hcap, _⟩
  · rw [he] at e1
    injection e1
    omega
  · rw [he] at e1
    injection e1
    omega
set_option maxRecDepth 100000 in
set_option maxHeartbeats 1000000 in
/-- Bytes of their own. -/
theorem lent_any (A : Option Addr) (c : Nat) (b : List Int) (w : World) (h : Arg w A c b) (hl : b.length ≤ 5000) :
    Calls Tryz.prog 15 #[.slice A b.length c] w fun e w' => ∃ A' c', e = .returned (.slice A' b.length c') ∧ Arg w' A' c' b ∧ Below w.heap.size w w' := by
  have HB := Aside0.mk h.byt
  have HR := Aside0.mk (Rd_C h.rd)
  obtain ⟨n, hn⟩ : ∃ n, b.length = n := ⟨_, rfl⟩
  clear h
  go_enter Tryz.func15, Tryz.ntmps15
  have HL := Aside0.mk hl
  clear hn hl
  go_wp2_with ((with_reducible refine gate_dst (N := 6) rfl ?_); go_loud (refine Kd.R_append_row (Value.int .u8) (0 : Int) (h1 := fun _ => rfl) (w0 := w) w.heap.size rfl _ _ _ 5 (.int .u8 0) 1 rfl Tryz.underlying22 info_u8 rfl (by decide) _ [] b A b.length c (fun _ => True) rfl rfl (fun _ _ => trivial) (Kd.R_nil _ _ _ _ _) HR.out (Below.refl _ _) (by simp) (by have := HL.out; simp; omega) ?_; intro v1 w1 hown hb hg hat; have HO := Aside0.mk hown; have HB1 := Aside0.mk hb; clear hown hb hg hat))
  go_ret
  have ho : Kd.R kB 5 w1 w.heap.size (fun _ => True) v1 b := HO.out
  obtain ⟨A', c', rfl, ha⟩ := arg_of_R ho HB.out
  exact ⟨A', c', rfl, ha, HB1.out⟩
set_option maxRecDepth 100000 in
set_option maxHeartbeats 8000000 in
theorem checks01_any (t : Int) (ht : 0 ≤ t ∧ t < 256) (A : Option Addr) (c : Nat) (b : List Int) (L : Option Addr) (cl : Nat) (low : List Int) (U : Option Addr) (cu : Nat) (high : List Int) (w : World) (h : Tbl w) (hT : Tabs w) (ha : Arg w A c b) (hl : Arg w L cl low) (hh : Arg w U cu high) :
    Calls Tryz.prog 3 #[.int .u8 t, .slice A b.length c, .slice L low.length cl, .slice U high.length cu] w fun e w' => e = .returned (.bool true) ∧ Below w.heap.size w w' := by
  have hrf : Below w.heap.size w w := Below.refl _ _
  have HW := Aside0.mk fun W (hW : Below w.heap.size w W) => works01_any W (hT.below hW) (h.below hW)
  have HL1 := Aside0.mk fun W (hW : Below w.heap.size w W) (hn : b.length ≤ 5000) => lent_any A c b W (ha.below hW) hn
  have HL2 := Aside0.mk fun W (hW : Below w.heap.size w W) (hn : low.length ≤ 5000) => lent_any L cl low W (hl.below hW) hn
  have HL3 := Aside0.mk fun W (hW : Below w.heap.size w W) (hn : high.length ≤ 5000) => lent_any U cu high W (hh.below hW) hn
  have HK := Aside0.mk fun W A1 c1 A2 c2 A3 c3 (hW : Below w.heap.size w W) (h1 : Arg W A1 c1 b) (h2 : Arg W A2 c2 low) (h3 : Arg W A3 c3 high) => check_any t ht A1 c1 b A2 c2 low A3 c3 high W (h.below hW) h1 h2 h3
  have HR := Aside0.mk fun W (hW : Below w.heap.size w W) => rcheck_any t A c b L cl low U cu high W (ha.below hW) (hl.below hW) (hh.below hW)
  rw [← chk_R t ha.byt hl.byt hh.byt] at HR
  generalize chkC t b low high = k at *
  have HS1 := Aside0.mk fun W (hW : Below w.heap.size w W) => str_at (c := c) (Rd_C ha.rd) W hW
  have HS2 := Aside0.mk fun W (hW : Below w.heap.size w W) => str_at (c := cl) (Rd_C hl.rd) W hW
  have HS3 := Aside0.mk fun W (hW : Below w.heap.size w W) => str_at (c := cu) (Rd_C hh.rd) W hW
  obtain ⟨nb, hnb⟩ : ∃ n, b.length = n := ⟨_, rfl⟩
  obtain ⟨nl, hnl⟩ : ∃ n, low.length = n := ⟨_, rfl⟩
  obtain ⟨nh, hnh⟩ : ∃ n, high.length = n := ⟨_, rfl⟩
  have HN := Aside0.mk (And.intro hnb (And.intro hnl hnh))
  rw [hnb] at HL1 HK HR HS1
  rw [hnl] at HL2 HK HR HS2
  rw [hnh] at HL3 HK HR HS3
  rw [hnb, hnl, hnh]
  clear ha hl hh h hT hnb hnl hnh
  have G0 := Aside0.mk True.intro
  have G1 := Aside0.mk True.intro
  by_cases h1 : (5000 : Int) < nb
  · have d1 := decide_eq_true h1
    go_enter Tryz.func3, Tryz.ntmps3
    go_wp2_with (go_at_call 14; refine (HW.out _ hrf).mono ?_; rintro e w1 ⟨rfl, hb1⟩; have HB1 := Aside0.mk hb1; clear hb1)
    go_ret
    exact ⟨rfl, HB1.out⟩
  have d1 := decide_eq_false h1
  by_cases h2 : (5000 : Int) < nl
  · have d2 := decide_eq_true h2
    go_enter Tryz.func3, Tryz.ntmps3
    go_wp2_with (go_at_call 14; refine (HW.out _ hrf).mono ?_; rintro e w1 ⟨rfl, hb1⟩; have HB1 := Aside0.mk hb1; clear hb1)
    go_ret
    exact ⟨rfl, HB1.out⟩
  have d2 := decide_eq_false h2
  by_cases h3 : (5000 : Int) < nh
  · have d3 := decide_eq_true h3
    go_enter Tryz.func3, Tryz.ntmps3
    go_wp2_with (go_at_call 14; refine (HW.out _ hrf).mono ?_; rintro e w1 ⟨rfl, hb1⟩; have HB1 := Aside0.mk hb1; clear hb1)
    go_ret
    exact ⟨rfl, HB1.out⟩
  have d3 := decide_eq_false h3
  have h1' : nb ≤ 5000 := by omega
  have h2' : nl ≤ 5000 := by omega
  have h3' : nh ≤ 5000 := by omega
  have HZ := Aside0.mk (And.intro h1' (And.intro h2' h3'))
  clear h1 h2 h3 h1' h2' h3'
  go_enter Tryz.func3, Tryz.ntmps3
  go_wp2_with (first
    | (have hg := G0.out; clear hg; go_at_call 15; refine (HL1.out _ hrf HZ.out.1).mono ?_; rintro e w1 ⟨A1, c1, rfl, ha1, hb1⟩; have HB1 := Aside0.mk hb1; have HA1 := Aside0.mk ha1; clear hb1 ha1 G0)
    | (have hg := G1.out; clear hg; go_at_call 15; refine (HL2.out _ HB1.out HZ.out.2.1).mono ?_; rintro e w2 ⟨A2, c2, rfl, ha2, hb2⟩; have HB2 := Aside0.mk (HB1.out.trans (hb2.mono HB1.out.size)); have HA12 := Aside0.mk (HA1.out.below hb2); have HA2 := Aside0.mk ha2; clear hb2 ha2 G1)
    | (go_at_call 15; refine (HL3.out _ HB2.out HZ.out.2.2).mono ?_; rintro e w3 ⟨A3, c3, rfl, ha3, hb3⟩; have HB3 := Aside0.mk (HB2.out.trans (hb3.mono HB2.out.size)); have HA := Aside0.mk (And.intro (HA12.out.below hb3) (And.intro (HA2.out.below hb3) ha3)); clear hb3 ha3)
    | (go_at_call 16; refine (HK.out _ A1 c1 A2 c2 A3 c3 HB3.out HA.out.1 HA.out.2.1 HA.out.2.2).mono ?_; rintro e w4 ⟨rfl, hb4⟩; have HB34 := Aside0.mk hb4; have HB4 := Aside0.mk (HB3.out.trans (hb4.mono HB3.out.size)); clear hb4)
    | (go_at_call 17; refine (HR.out _ HB4.out).mono ?_; rintro e w5 ⟨rfl, hb5⟩; have HB5 := Aside0.mk (HB4.out.trans (hb5.mono HB4.out.size)); have hb35 := HB34.out.trans (hb5.mono HB34.out.size); have s1 := HS1.out _ HB5.out; have s2 := HS2.out _ HB5.out; have s3 := HS3.out _ HB5.out; have u1 := str_at (c := c1) (Rd_C HA.out.1.rd) _ hb35; have u2 := str_at (c := c2) (Rd_C HA.out.2.1.rd) _ hb35; have u3 := str_at (c := c3) (Rd_C HA.out.2.2.rd) _ hb35; rw [HN.out.1] at u1; rw [HN.out.2.1] at u2; rw [HN.out.2.2] at u3; clear hb5 hb35)
    | (go_at_call 14; refine (HW.out _ HB5.out).mono ?_; rintro e w6 ⟨rfl, hb6⟩; have HB6 := Aside0.mk (HB5.out.trans (hb6.mono HB5.out.size)); clear hb6))
  go_ret
  exact ⟨rfl, HB6.out⟩
end Go.Proofs.YtcgcghldgomelaaGreatDoor.Mp
