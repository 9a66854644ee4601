/- The law's example: works. -/
import Derived.Test.YteflphhdafhapaaPrs
import Derived.Test.YteflphhdafhapaaRefA
import Derived.Deep.QuietTactic
namespace Go.Proofs.Yteflphhdafhapaa.Rng
open Go.RowKit Go.Shelf Go.Proofs.YteflphhdafhapaaW.PrintWords Go.Proofs.YteflphhdafhapaaW.PrintMore
open Go.Proofs.Yteflphhdafhapaa.Ref

theorem C_map {α β : Type} {d : Kd α} {d' : Kd β} (f : α → β) (hs : d'.sz = d.sz) (hK : ∀ w x cs, d.K w x cs → d'.K w (f x) cs) {w : World} {A : Option Addr} {n : Nat} {xs : List α} (h : d.C w A n xs) : d'.C w A n (xs.map f) := by
  obtain ⟨h1, h2, h3⟩ := h
  refine ⟨by rw [List.length_map]; exact h1, h2, fun hn => ?_⟩
  obtain ⟨ad, e, hc⟩ := h3 hn
  refine ⟨ad, e, fun j p hj => ?_⟩
  rw [List.getElem?_map] at hj
  cases hx : xs[j]? with
  | none => rw [hx] at hj; cases hj
  | some x =>
    rw [hx] at hj
    injection hj with hj
    subst hj
    obtain ⟨c, h4, h5, h6⟩ := hc j x hx
    exact ⟨c, by rw [hs]; exact h4, hK _ _ _ h5, by rw [hs]; exact h6⟩
def toSg (x : S45) : Sg := ((x.f0.f0, x.f0.f1), x.f1)
def to50 (x : Sg) : S50 := ⟨⟨x.1.1, x.1.2⟩, x.2⟩
def to45 (x : Sg) : S45 := ⟨⟨x.1.1, x.1.2⟩, x.2⟩
theorem C_sg {w : World} {A : Option Addr} {n : Nat} {xs : List S45} (h : Kd.C k45 w A n xs) : kS.C w A n (xs.map toSg) := C_map toSg rfl (fun _ _ _ h => h) h
theorem C_50 {w : World} {A : Option Addr} {n : Nat} {xs : List Sg} (h : kS.C w A n xs) : Kd.C k50 w A n (xs.map to50) := C_map to50 rfl (fun _ _ _ h => h) h
theorem C_45 {w : World} {A : Option Addr} {n : Nat} {xs : List Sg} (h : kS.C w A n xs) : Kd.C k45 w A n (xs.map to45) := C_map to45 rfl (fun _ _ _ h => h) h

def twoL : List Sg := [((4119, 0), [16, 0]), ((24576, 1), [7])]
def byL : List Int := [2, 0, 0, 0, 23, 16, 0, 2, 0, 0, 0, 16, 0, 0, 96, 1, 1, 0, 0, 0, 7]
theorem two_good : ∀ k, k < twoL.length → ¬ wBad twoL k
  | 0, _ => by unfold wBad; decide +kernel
  | 1, _ => by unfold wBad; decide +kernel
  | k + 2, h => by
    have h2 : twoL.length = 2 := rfl
    omega
theorem two_bytes : wK twoL 2 = byL := by decide +kernel
theorem two_parse {r1 : List Sg} {r2 r3 : Int} (h : PSaid byL r1 r2 r3) : r1 = twoL ∧ r2 = 0 ∧ r3 = 0 := by
  have hc : cntAt byL = 2 := by decide +kernel
  have h0 : okAt byL (posK byL 0) = true := by decide +kernel
  have h1 : okAt byL (posK byL 1) = true := by decide +kernel
  have h2 : ¬ posK byL 2 < byL.length := by decide +kernel
  have hp : parsed byL 2 = twoL := by decide +kernel
  have hl : byL.length = 21 := rfl
  rcases h with ⟨h, _⟩ | ⟨h, _⟩ | ⟨_, _, K, hK, hok, h⟩
  · omega
  · omega
  · rw [hc] at hK h
    rcases h with ⟨(⟨h, h'⟩ | ⟨h, h'⟩), _⟩ | ⟨h, _, e1, e2, e3⟩
    · have : K = 0 ∨ K = 1 := by omega
      rcases this with rfl | rfl
      · rw [h0] at h'; cases h'
      · rw [h1] at h'; cases h'
    · subst h; exact absurd h' h2
    · subst h; exact ⟨e1.trans hp, e2, e3⟩

/-- The bytes of a string. -/
def numsS (s : ByteArray) : List Int := s.data.toList.map fun b => (b.toNat : Int)
theorem numsS_bytes (s : ByteArray) : Bytes (numsS s) := by
  intro x hx
  obtain ⟨b, _, rfl⟩ := List.mem_map.1 hx
  have := b.toNat_lt
  omega
theorem conv_any (W : World) (s : ByteArray) (n : Nat) (hn : s.size = n) (h64 : n ≤ 9223372036854775807) : ∃ cap W', (convert 9 25 (.string s)).run Try.prog W = .ok (.slice (some ⟨W.heap.size, 0, none⟩) n cap) W' ∧ n ≤ cap ∧
    kB.C W' (some ⟨W.heap.size, 0, none⟩) n (numsS s) ∧ Below W.heap.size W W' ∧ W.heap.size < W'.heap.size := by
  have hl : (numsS s).length = n := by simp [numsS]; exact hn
  refine ⟨_, _, by rw [← hn]; exact Lib.run_convert_string_bytes W 9 25 5 s Try.underlying9 Try.underlying25 Try.underlying5, ?_, ?_, ?_, by rw [Lib.bytesWorld_size]; omega⟩
  · rw [hn]; exact grownCap_ge W n 0 5
  · have h := Rd_C (w := Lib.bytesWorld W 5 s) (A := some ⟨W.heap.size, 0, none⟩) (zs := numsS s) ⟨by omega, fun _ => ⟨_, rfl, fun j hj => by
      rw [add_plain, Lib.bytesWorld_cell W 5 s j (by omega)]
      simp only [numsS, List.getElem?_map, List.getD_eq_getElem?_getD]
      cases hx : s.data.toList[j]? with
      | none => rw [List.getElem?_eq_none_iff] at hx; simp at hx; have : s.size = s.data.size := rfl; omega
      | some b => rfl⟩⟩
    rwa [hl] at h
  · refine ⟨rfl, rfl, rfl, by rw [Lib.bytesWorld_size]; omega, fun k hk => Lib.bytesWorld_at_old W 5 s k hk⟩

theorem keepW {n : Nat} {w X Y : World} {a b : Addr} {u v : Value} (h : Below n w X ∧ X.cell? a = some u ∧ X.cell? b = some v) (hb : Below X.heap.size X Y) (hn : n ≤ X.heap.size := by assumption) : Below n w Y ∧ Y.cell? a = some u ∧ Y.cell? b = some v :=
  ⟨below_then h.1 hn hb, pw_cell_below hb h.2.1, pw_cell_below hb h.2.2⟩
theorem str_at {w : World} {A : Option Addr} {n c : Nat} {zs : List Int} (h : kB.C w A n zs) (X : World) (hb : Below w.heap.size w X) : (convert 25 9 (.slice A n c)).run Try.prog X = .ok (.string (strOfNums zs)) X :=
  Kd.C_string (P := Try.prog) Try.underlying25 Try.underlying5 Try.underlying9 (Kd.C_below h hb)

set_option maxRecDepth 100000 in
set_option maxHeartbeats 4000000 in
theorem works_any (w : World) : Calls Try.prog 7 #[] w fun e w' => e = .returned (.bool true) ∧ Below w.heap.size w w' := by
  go_enter Try.func7, Try.ntmps7
  go_wp2_with (first
    | (go_at_call 15; refine (campanilelaw23_two.calls _ _ rfl).mono ?_; rintro e w1 ⟨v1, rfl, hN, hb1⟩; obtain ⟨A1, c1, rfl, hl1, hF⟩ := Kd.N_V (base' := 0) hN; have HC1 : Aside0 (kS.C w1 A1 2 twoL) := ⟨C_sg (Kd.F_now hF)⟩; have HB1 := Aside0.mk hb1; clear hN hF hb1)
    | (go_at_call 8; refine (write_any A1 c1 twoL w1 HC1.out (by decide)).mono ?_; rintro e w2 ⟨v2, r1, r2, rfl, hR2, hb2, hsaid⟩; obtain ⟨rfl, rfl⟩ : r1 = byL ∧ r2 = 0 := (by rcases hsaid with ⟨⟨k, hk, hbad⟩, _⟩ | ⟨_, h1, h2⟩; exact absurd hbad (two_good k hk); exact ⟨h1.trans two_bytes, h2⟩); have HR2 := Aside0.mk hR2; have HB2 := Aside0.mk hb2; clear hR2 hb2 hsaid)
    | (go_at_call 16; refine (campanilelaw23_bytes.calls _ _ rfl).mono ?_; rintro e w3 ⟨rfl, ⟨m3, rfl⟩⟩))
  obtain ⟨cap4, W4, hrun4, hcap4, hC4, hb4, hlt4⟩ := conv_any (w2.drewN m3) ⟨#[2, 0, 0, 0, 23, 16, 0, 2, 0, 0, 0, 16, 0, 0, 96, 1, 1, 0, 0, 0, 7]⟩ 21 rfl (by decide)
  rw [hrun4]
  rw [show numsS ⟨#[2, 0, 0, 0, 23, 16, 0, 2, 0, 0, 0, 16, 0, 0, 96, 1, 1, 0, 0, 0, 7]⟩ = byL by decide +kernel] at hC4
  have HC4 := Aside0.mk hC4
  have HB4 := Aside0.mk (below_step (pw_below_drewN HB2.out m3) (show Below (w2.drewN m3).heap.size (w2.drewN m3) W4 from hb4))
  have HB4b := Aside0.mk hb4
  clear hC4 hb4 hrun4
  obtain ⟨g4, hg4⟩ : ∃ g4, (w2.drewN m3).heap.size = g4 := ⟨_, rfl⟩
  rw [hg4] at HC4 ⊢
  go_wp2_with (go_at_call 11; refine (parse_any (some ⟨g4, 0, none⟩) cap4 byL W4 HC4.out hcap4 (by rw [show byL = numsS ⟨#[2, 0, 0, 0, 23, 16, 0, 2, 0, 0, 0, 16, 0, 0, 96, 1, 1, 0, 0, 0, 7]⟩ by decide +kernel]; exact numsS_bytes _)).mono ?_; rintro e w5 ⟨v5, r1, r2, r3, rfl, hR5, hb5, hs5⟩; obtain ⟨rfl, rfl, rfl⟩ := two_parse hs5; have HR5 := Aside0.mk hR5; have HB5 := Aside0.mk hb5; clear hR5 hb5 hs5)
  obtain ⟨A2, c2, rfl, hl2, hC2⟩ := Kd.R_reads HR2.out
  obtain ⟨A5, c5, rfl, hl5, hC5⟩ := Kd.R_reads HR5.out
  rw [show byL.length = 21 from rfl, show twoL.length = 2 from rfl]
  have hb45 : Below w1.heap.size w1 w5 := below_step HB4.out HB5.out
  have hC2 : kB.C w5 A2 21 byL := Kd.C_below hC2 (below_step (below_step (show Below w2.heap.size w2 (w2.drewN m3) from pw_below_drewN (Below.refl _ _) m3) (show Below (w2.drewN m3).heap.size (w2.drewN m3) W4 from HB4b.out)) HB5.out)
  obtain ⟨ad, B0, d0, e0, x0, -, -, -, -⟩ := sg_at hC5 0 (by decide)
  obtain ⟨ad', B1, d1, e1, -, -, x1, hl1', hC1'⟩ := sg_at hC5 1 (by decide)
  rw [e0] at e1
  injection e1 with e1
  subst e1
  subst e0
  have hcvA : ∀ X, Below w5.heap.size w5 X → (convert 25 9 (.slice A2 21 c2)).run Try.prog X = .ok (.string ⟨#[2, 0, 0, 0, 23, 16, 0, 2, 0, 0, 0, 16, 0, 0, 96, 1, 1, 0, 0, 0, 7]⟩) X := by
    intro X hX
    rw [← show strOfNums byL = ⟨#[2, 0, 0, 0, 23, 16, 0, 2, 0, 0, 0, 16, 0, 0, 96, 1, 1, 0, 0, 0, 7]⟩ by decide +kernel]
    exact str_at hC2 X hX
  have hcvB : ∀ X, Below w5.heap.size w5 X → (convert 25 9 (.slice B1 1 d1)).run Try.prog X = .ok (.string ⟨#[7]⟩) X := by
    intro X hX
    rw [← show strOfNums [7] = ⟨#[7]⟩ by decide +kernel]
    exact str_at hC1' X hX
  change w5.cell? ad = some (.int .u16 4119) at x0
  change w5.cell? ⟨ad.block, ad.off + 3 + 2, none⟩ = some (.slice B1 1 d1) at x1
  have hS0 : Below w5.heap.size w5 w5 ∧ w5.cell? ad = some (.int .u16 4119) ∧ w5.cell? ⟨ad.block, ad.off + 3 + 2, none⟩ = some (.slice B1 1 d1) := ⟨Below.refl _ _, x0, x1⟩
  clear hC2 hC1' hl1' hC5 x0 x1
  go_region_held3 (fun X => Below w5.heap.size w5 X ∧ X.cell? ad = some (.int .u16 4119) ∧ X.cell? ⟨ad.block, ad.off + 3 + 2, none⟩ = some (.slice B1 1 d1)) (first | assumption | exact keepW hS0 (pw_below_drewN (Below.refl _ _) _) (Nat.le_refl _) | exact keepW hS0 (below_drew (Below.refl _ _)) (Nat.le_refl _))
    ((go_at_call 16; refine (campanilelaw23_bytes.calls _ _ rfl).mono ?_; rintro e w6 ⟨rfl, ⟨m6, rfl⟩⟩))
  go_wp2
  go_ret
  exact ⟨rfl, pw_below_drewN (below_step HB1.out hb45) _⟩
end Go.Proofs.Yteflphhdafhapaa.Rng
