/- A region of plain operations, in a round: as outside of it. mapping.Unpack's take, walked. mapping.Unpack. -/
import Derived.Test.YtokebpeplopjhaaDoorY1
import Derived.OwnWalkIn
import Derived.OrdersIn
import Derived.OrdersHeld
import Derived.Test.YtokebpeplopjhaaDoorY9
import Derived.Test.YtokebpeplopjhaaDoorY7
import Derived.Deep.RegionHeld3
namespace Go.Proofs.YtokebpeplopjhaaDoor.Rng

/-- Operations that enter nothing. -/
def plainOp : Op → Bool
  | .move _ | .assign _ | .load _ _ | .store _ _ _ | .binOp _ _ _ _ _ | .indexAddr _ _ _ | .fieldAddr _ _ _ | .field _ _ _ | .alloc _ | .convert _ _ _ => true
  | _ => false
theorem exec_plain {P : Program} {o : Oper} (h : plainOp o.op = true) (ρ : Operand → Value) (w : World) : ∀ x w', (execOp ρ o).run P w = .ok x w' → (∃ v, x = .value v) ∨ x = .skip := by
  have hv : ∀ (s : Sem Value) x w', (do pure (Next.value (← s)) : Sem Next).run P w = .ok x w' → (∃ v, x = .value v) ∨ x = .skip := by
    intro s x w' h
    simp only [Sem.run_bind, Sem.run_pure] at h
    cases hr : s.run P w with
    | ok v w1 => rw [hr] at h; simp [Result.andThen] at h; exact .inl ⟨v, h.1.symm⟩
    | halt q w1 => rw [hr] at h; simp [Result.andThen] at h
  have hu : ∀ (s : Sem Unit) x w', (do s; pure Next.skip : Sem Next).run P w = .ok x w' → (∃ v, x = .value v) ∨ x = .skip := by
    intro s x w' h
    simp only [Sem.run_bind, Sem.run_pure] at h
    cases hr : s.run P w with
    | ok v w1 => rw [hr] at h; simp [Result.andThen] at h; exact .inr h.1.symm
    | halt q w1 => rw [hr] at h; simp [Result.andThen] at h
  intro x w' hx
  unfold execOp at hx
  cases ho : o.op <;> rw [ho] at h hx <;> simp only [plainOp] at h <;> first | cases h | skip
  all_goals first | exact hv _ x w' hx | exact hu _ x w' hx | (simp only [Sem.run_pure] at hx; cases hx; exact .inl ⟨_, rfl⟩)
theorem wpIn_of_wp {F : Fence} {n : Nat} {P : Program} {o : Oper} {a : Act} {w : World} {K : Act → World → Prop} {Q : Exit → Act → World → Prop} (hp : plainOp o.op = true) (h : o.wp P a w K Q) : o.wpIn F n P a w K Q := by
  have hc : ∀ c, o.op ≠ .call c := fun c e => by rw [e] at hp; cases hp
  have hd : ∀ c, o.op ≠ .defer c := fun c e => by rw [e] at hp; cases hp
  refine ⟨fun f hf => ?_, ?_⟩
  · unfold Oper.about at hf
    split at hf
    · exact absurd (by assumption) (hc _)
    · cases hf
  · rw [Oper.semAt_plain F _ _ hd]
    have he := exec_plain (P := P) hp a.eval w
    unfold Oper.wp at h
    cases hr : (execOp a.eval o).run P w with
    | halt q w1 =>
      rw [hr] at h
      cases q <;> exact h
    | ok x w1 =>
      rw [hr] at h
      rcases he x w1 hr with ⟨v, rfl⟩ | rfl
      · exact h
      · exact h
theorem wpAnyIn_of {F : Fence} {n : Nat} {P : Program} {md : Region.Mode} {ops : Array Oper} {Q : Exit → Act → World → Prop} (hp : ∀ (i : Nat) (o : Oper), ops[i]? = some o → plainOp o.op = true) (hq : ¬ LetsOut Q) :
    ∀ (fuel : Nat) (listed : Array Bool) (a : Act) (w : World), wpAny P md ops Q fuel listed a w → wpAnyIn F n P md ops Q fuel listed a w
  | 0, _, _, _, h => h
  | fuel + 1, listed, a, w, h => ⟨h.1, fun i hi => by
      have h2 := h.2 i hi
      have ih := fun a' w' => wpAnyIn_of (F := F) (n := n) (P := P) (md := md) hp hq fuel (listed.setIfInBounds i true) a' w'
      unfold wpOp at h2
      unfold wpOpIn
      cases ho : ops[i]? with
      | none =>
        rw [ho] at h2
        exact ih _ _ h2
      | some o =>
        rw [ho] at h2
        simp only at h2 ⊢
        split
        · rename_i hw
          rw [if_pos hw] at h2
          rcases h2 with h2 | ⟨_, h2⟩
          · exact wpIn_of_wp (hp i o ho) (Oper.wp_mono ih h2)
          · exact absurd h2 hq
        · rename_i hw
          rw [if_neg hw] at h2
          refine ⟨fun f hf => ?_, ih _ _ h2⟩
          have hpo := hp i o ho
          unfold Oper.about at hf
          split at hf
          · rename_i c hc
            rw [hc] at hpo
            cases hpo
          · cases hf⟩
/-- A region of plain operations that draws, in a round: by the moves for a lone walk. -/
theorem region_in {F : Fence} {n : Nat} {P : Program} {ops : Array Oper} {Q : Exit → Act → World → Prop} {S : World → Prop} {id : Nat} {a : Act} {w : World} (hm : P.follows .mixedOrders = true) (hp : ops.all (fun o => plainOp o.op) = true) (hq : ¬ LetsOut Q)
    (h : wpAnyH P .any ops Q S ops.size (Array.replicate ops.size false) a w.drew) : (Code.region id ops true).wpIn F n P Q a w :=
  wpIn_region_any hm (wpAnyIn_of (fun i o ho => by
    have := Array.all_eq_true_iff_forall_mem.1 hp o (Array.mem_of_getElem? ho)
    exact this) hq _ _ _ _ (wpAny_of_held _ _ _ _ h))
end Go.Proofs.YtokebpeplopjhaaDoor.Rng
namespace Go.Proofs.YtokebpeplopjhaaDoor.Num
open Go.RowKit Go.Shelf Go.Proofs.YtokebpeplopjhaaDoor.Rng Go.Proofs.YtokebpeplopjhaaDoor.Mp
attribute [local go_sem] Oper.semAt_some

theorem byteP_low {t : List Int} (h : Bits t) : 0 ≤ byteP t (t.length / 8) ∧ byteP t (t.length / 8) < 2 ^ (t.length % 8) := by
  obtain ⟨q, r, hr, hp⟩ : ∃ q r, r < 8 ∧ t.length = 8 * q + r := ⟨t.length / 8, t.length % 8, Nat.mod_lt _ (by omega), by omega⟩
  have e1 : t.length / 8 = q := by omega
  have e2 : t.length % 8 = r := by omega
  rw [e1, e2]
  have z : ∀ j, r ≤ j → t[8 * q + j]?.getD 0 = 0 := fun j hj => by rw [List.getElem?_eq_none (by omega)]; rfl
  have b0 := bits_bnd h (8 * q)
  have b1 := bits_bnd h (8 * q + 1)
  have b2 := bits_bnd h (8 * q + 2)
  have b3 := bits_bnd h (8 * q + 3)
  have b4 := bits_bnd h (8 * q + 4)
  have b5 := bits_bnd h (8 * q + 5)
  have b6 := bits_bnd h (8 * q + 6)
  have z0 := z 0
  have z1 := z 1
  have z2 := z 2
  have z3 := z 3
  have z4 := z 4
  have z5 := z 5
  have z6 := z 6
  have z7 := z 7 (by omega)
  rw [Nat.add_zero] at z0
  unfold byteP
  clear z hp e1 e2
  match r, hr with
  | 0, _ => rw [z0 (by omega), z1 (by omega), z2 (by omega), z3 (by omega), z4 (by omega), z5 (by omega), z6 (by omega), z7]; decide
  | 1, _ => rw [z1 (by omega), z2 (by omega), z3 (by omega), z4 (by omega), z5 (by omega), z6 (by omega), z7]; omega
  | 2, _ => rw [z2 (by omega), z3 (by omega), z4 (by omega), z5 (by omega), z6 (by omega), z7]; omega
  | 3, _ => rw [z3 (by omega), z4 (by omega), z5 (by omega), z6 (by omega), z7]; omega
  | 4, _ => rw [z4 (by omega), z5 (by omega), z6 (by omega), z7]; omega
  | 5, _ => rw [z5 (by omega), z6 (by omega), z7]; omega
  | 6, _ => rw [z6 (by omega), z7]; omega
  | 7, _ => rw [z7]; omega
set_option maxRecDepth 100000 in
set_option maxHeartbeats 2000000 in
theorem take_any (Bb Ba cap : Nat) (A : Option Addr) (zs : List Int) (p n : Nat) (w : World) (hb : w.cell? ⟨Bb, 0, none⟩ = some (.slice A zs.length cap)) (ha : w.heap[Ba]? = some (.cells #[.int .i64 p] 3 (0, 0))) (hz : Rd w A zs) (hy : Byt zs) (hl : p + n ≤ 8 * zs.length) (hp : p + n ≤ 1000) :
    Calls Tryd.prog 79 #[.int .i64 n, .pointer (some ⟨Bb, 0, none⟩), .pointer (some ⟨Ba, 0, none⟩)] w fun e w' => ∃ g, e = .returned (.slice (some ⟨g, 0, none⟩) ((n + 7) / 8) ((n + 7) / 8)) ∧ w.heap.size ≤ g ∧ RowB w' g (pkL (bitsL zs p n) ((n + 7) / 8)) ∧ w'.heap[Ba]? = some (.cells #[.int .i64 ((p + n : Nat) : Int)] 3 (0, 0)) ∧ Fr (fun k => k = Ba) w w' := by
  refine (callsIn_wide (n := 3)).1 ?_
  refine callsIn_of_wp_marks Tryd.func79 rfl trivial ?_ rfl
  simp only [Tryd.ntmps79, List.size_toArray, List.length_cons, List.length_nil, Nat.reduceAdd, Nat.reduceSub, Array.replicate_succ, Array.replicate_zero, List.push_toArray, List.append_toArray, List.nil_append, List.cons_append]
  have Hz := Lib.hid hz
  have HO := Lib.hid hz.off
  have HY := Lib.hid hy
  have HL := Lib.hid hl
  have ha0 : w.cell? ⟨Ba, 0, none⟩ = some (.int .i64 p) := Num.blk_cell ha
  obtain ⟨m, hm⟩ : ∃ m, (n + 7) / 8 = m := ⟨_, rfl⟩
  have HMM := Lib.hid hm
  have hmi : ((n : Int) + 7) / 8 = (m : Int) := by omega
  have hmk := fun W => make_u8 m (by omega) W
  have HA := Lib.hid ha
  have HBB := Lib.hid hb
  rw [hm]
  clear hz hy hl hm ha
  have hb2 : ∀ o o', ((w.alloc o).alloc o').cell? ⟨Bb, 0, none⟩ = some (.slice A zs.length cap) := fun o o' => ((((Below.refl w.heap.size w).alloc (Nat.le_refl _) o).alloc (by simp) o').cell (World.block_lt_of_cell? w _ hb)).trans hb
  have ha2 : ∀ o o', ((w.alloc o).alloc o').cell? ⟨Ba, 0, none⟩ = some (.int .i64 p) := fun o o' => ((((Below.refl w.heap.size w).alloc (Nat.le_refl _) o).alloc (by simp) o').cell (World.block_lt_of_cell? w _ ha0)).trans ha0
  clear hb ha0
  gi_wp2_with (refine ⟨trivial, ?_⟩; gi_at_call 75; refine (callsIn_wide.2 (mbits _ _ _ _ _ _)).mono ?_; rintro e w' ⟨rfl, rfl⟩)
  clear hmk hb2 ha2
  obtain ⟨W0, hW0⟩ : ∃ W0, (((((w.alloc (.cells (mz m) 5)).alloc (.cells #[.slice (some ⟨w.heap.size, 0, none⟩) m m] 34)).alloc (.cells #[.slice A zs.length cap] 34)).alloc (.cells #[.int .i64 p] 3)).alloc (.cells #[.int .i64 n] 3)) = W0 := ⟨_, rfl⟩
  have hs0 : W0.heap.size = w.heap.size + 5 := by rw [← hW0]; simp
  have hf0 : Below w.heap.size w W0 := by rw [← hW0]; exact (((((Below.refl _ w).alloc (Nat.le_refl _) _).alloc (by simp) _).alloc (by simp; omega) _).alloc (by simp; omega) _).alloc (by simp; omega) _
  have hbl : ∀ (X : World) (o : Obj) (k : Nat) (q : Obj), X.heap[k]? = some q → (X.alloc o).heap[k]? = some q := fun X o k q h => (Below.heap_alloc X o k (Array.getElem?_eq_some_iff.1 h).1).trans h
  have hnew : ∀ (X : World) (o : Obj) (k : Nat), X.heap.size = k → (X.alloc o).heap[k]? = some o := fun X o k h => h ▸ World.alloc_heap_new X o
  have r0 : RowB W0 w.heap.size (pkL (bitsL zs p 0) m) := by
    rw [show bitsL zs p 0 = [] from rfl, pkL_nil, ← hW0]
    exact hbl _ _ _ _ (hbl _ _ _ _ (hbl _ _ _ _ (hbl _ _ _ _ (rowB_mz w m))))
  have b1 : W0.heap[w.heap.size + 1]? = some (.cells #[.slice (some ⟨w.heap.size, 0, none⟩) m m] 34 (0, 0)) := by rw [← hW0]; exact hbl _ _ _ _ (hbl _ _ _ _ (hbl _ _ _ _ (hnew _ _ _ (by simp))))
  have b2 : W0.heap[w.heap.size + 2]? = some (.cells #[.slice A zs.length cap] 34 (0, 0)) := by rw [← hW0]; exact hbl _ _ _ _ (hbl _ _ _ _ (hnew _ _ _ (by simp)))
  have b3 : W0.heap[w.heap.size + 3]? = some (.cells #[.int .i64 p] 3 (0, 0)) := by rw [← hW0]; exact hbl _ _ _ _ (hnew _ _ _ (by simp))
  have b4 : W0.heap[w.heap.size + 4]? = some (.cells #[.int .i64 n] 3 (0, 0)) := by rw [← hW0]; exact hnew _ _ _ (by simp)
  rw [hW0]
  have F0 := Lib.hid hf0
  have R0 := Lib.hid r0
  have B1 := Lib.hid b1
  have B2 := Lib.hid b2
  have B3 := Lib.hid b3
  have B4 := Lib.hid b4
  have S0 := Lib.hid hs0
  clear hf0 hs0 hbl hnew r0 b1 b2 b3 b4 hW0
  refine wp_range (gf := 114) (lb := #[.pointer (some ⟨w.heap.size + 4, 0, none⟩), .pointer (some ⟨w.heap.size + 3, 0, none⟩), .pointer (some ⟨w.heap.size + 2, 0, none⟩)]) rfl (enters_of Tryd.func114 (by kernel_rfl) rfl) n (bitsV zs p) (fun k => k = w.heap.size) (fun _ => False)
    ⟨by have := S0.out; omega, by have := S0.out; omega⟩ ⟨id, id⟩ (by rintro k x W rfl; rfl) ?_
    (fun k W => RowB W w.heap.size (pkL (bitsL zs p k) m) ∧ Fr (fun k => k = w.heap.size) W0 W) (fun _ _ _ => False) ?_ (fun _ _ _ _ h _ => h) ⟨R0.out, Fr.refl _ _⟩ ?_ ?_ (fun _ _ _ _ _ h => h.elim)
  · intro o
    have hs := S0.out
    have hfr : Fr (fun _ => False) W0 ((W0.alloc (.deferred (some []))).alloc o) := (Fr.alloc (fun _ => False) W0 _).trans (Fr.alloc _ _ _)
    refine bits_seq (w.heap.size + 4) (w.heap.size + 3) (w.heap.size + 2) cap A zs p n _ _ (hfr.cell (Num.blk_cell B4.out) id) (hfr.cell (Num.blk_cell B3.out) id) (hfr.cell (Num.blk_cell B2.out) id) (by omega) (by omega) (by omega) ((Hz.out.fr (Fr.of_below (M := fun _ => False) F0.out) (fun _ _ _ => id)).fr hfr (fun _ _ _ => id)) ?_ HY.out HL.out (by omega)
    intro ad e hn h
    have := HO.out ad e hn
    omega
  · rintro k X Y ⟨h1, h2⟩ hf
    have hs := S0.out
    exact ⟨(hf.block _ (Array.getElem?_eq_some_iff.1 h1).1 (by rintro (h | h | h) <;> omega)).trans h1, h2.then_ hf (fun i hi h => by rcases h with h | h | h; exact h.elim; exact absurd h (by omega); exact absurd h (by omega))⟩
  · intro l k args W hkl hk hsz hI
    obtain rfl := hk
    obtain ⟨hrow, hfr⟩ := hI
    obtain ⟨x, hx⟩ : ∃ x, bit zs (p + k) = x := ⟨_, rfl⟩
    have hx01 : x = 0 ∨ x = 1 := hx ▸ bit_01 _ _
    rw [hx]
    have HX := Lib.hid hx
    have HROW := Lib.hid hrow
    have HFR := Lib.hid hfr
    clear hx hrow hfr
    gi_wp2
    refine ⟨Fr.refl _ _, ?_⟩
    intro W2 hf2
    have hs := S0.out
    have hrow2 : RowB W2 w.heap.size (pkL (bitsL zs p k) m) := (hf2.block _ (Array.getElem?_eq_some_iff.1 HROW.out).1 (by omega)).trans HROW.out
    have hk8 : k / 8 < m := by have := HMM.out; omega
    obtain ⟨hc, hfz⟩ := hrow2.cell (k / 8) (by rw [pkL_length]; exact hk8)
    rw [pkL_get _ _ _ hk8] at hc
    have hlow := byteP_low (bits_bitsL zs p k)
    rw [bitsL_length] at hlow
    obtain ⟨cur, hcur⟩ : ∃ cur, byteP (bitsL zs p k) (k / 8) = cur := ⟨_, rfl⟩
    rw [hcur] at hc hlow
    have hcv : W2.cell? ⟨w.heap.size + 1, 0, none⟩ = some (.slice (some ⟨w.heap.size, 0, none⟩) m m) := hf2.cell (HFR.out.cell (Num.blk_cell B1.out) (fun e => absurd (show w.heap.size + 1 = w.heap.size from e) (by omega))) (fun e => absurd (show w.heap.size + 1 = W0.heap.size + 1 from e) (by omega))
    have hjoin := u8_join cur x (k % 8) (by omega) hlow hx01
    have HJ := Lib.hid hjoin
    have HC := Lib.hid hcur
    have HR2 := Lib.hid hrow2
    have HF2 := Lib.hid hf2
    clear hlow hjoin hcur hrow2 hf2
    gi_wp2
    have hS : (fun X : World => X.cell? ⟨w.heap.size + 1, 0, none⟩ = some (.slice (some ⟨w.heap.size, 0, none⟩) m m)) W2.drew := hcv
    refine region_in (S := fun X : World => X.cell? ⟨w.heap.size + 1, 0, none⟩ = some (.slice (some ⟨w.heap.size, 0, none⟩) m m)) (by kernel_rfl) (by kernel_rfl) (by rintro ⟨_, _, h⟩; exact h) ?_
    refine wpAnyH_take (i := 0) (v := .slice (some ⟨w.heap.size, 0, none⟩) m m) rfl (by kernel_rfl) (by kernel_rfl) (by kernel_rfl) (fun _ _ _ h => h) (.inl ⟨by simp [Region.wanted], fun X hX => ?_⟩) hS ?_
    · go_simp
    refine wpAnyH_take (i := 1) (v := .int .i64 k) rfl (by kernel_rfl) (by kernel_rfl) (by kernel_rfl) (fun _ _ _ h => h) (.inl ⟨by simp [Region.wanted], fun X hX => ?_⟩) hS ?_
    · go_simp
    refine wpAnyH_take (i := 2) (v := .int .i64 ((k : Int) / 8)) rfl (by kernel_rfl) (by kernel_rfl) (by kernel_rfl) (fun _ _ _ h => h) (.inl ⟨by simp [Region.wanted], fun X hX => ?_⟩) hS ?_
    · go_simp
      rw [IntKind.wrap_i64]
      omega
    refine wpAnyH_take (i := 3) (v := .pointer (some ⟨w.heap.size, k / 8, none⟩)) rfl (by kernel_rfl) (by kernel_rfl) (by kernel_rfl) (fun _ _ _ h => h) (.inl ⟨by simp [Region.wanted], fun X hX => ?_⟩) hS ?_
    · go_simp
      rw [if_pos ⟨by omega, by omega⟩, show ((k : Int) / 8).toNat = k / 8 by omega]
    refine wpAnyH_take (i := 5) (v := .int .u8 x) rfl (by kernel_rfl) (by kernel_rfl) (by kernel_rfl) (fun _ _ _ h => h) (.inl ⟨by simp [Region.wanted], fun X hX => ?_⟩) hS ?_
    · go_simp
    refine wpAnyH_take (i := 6) (v := .int .i64 k) rfl (by kernel_rfl) (by kernel_rfl) (by kernel_rfl) (fun _ _ _ h => h) (.inl ⟨by simp [Region.wanted], fun X hX => ?_⟩) hS ?_
    · go_simp
    refine wpAnyH_take (i := 7) (v := .int .i64 ((k : Int) % 8)) rfl (by kernel_rfl) (by kernel_rfl) (by kernel_rfl) (fun _ _ _ h => h) (.inl ⟨by simp [Region.wanted], fun X hX => ?_⟩) hS ?_
    · go_simp
      rw [Int.tmod_eq_emod_of_nonneg (by omega)]
    refine wpAnyH_take (i := 8) (v := .int .u8 (IntKind.u8.wrap (x * 2 ^ (k % 8)))) rfl (by kernel_rfl) (by kernel_rfl) (by kernel_rfl) (fun _ _ _ h => h) (.inl ⟨by simp [Region.wanted], fun X hX => ?_⟩) hS ?_
    · go_simp
      rw [show ((k : Int) % 8).toNat = k % 8 by omega]
    refine wpAnyH_ready (rs := [4]) (by kernel_rfl) (by simp) (AllReadyH.cons rfl (fun K hK => ?_) AllReadyH.nil)
    go_simp
    refine hK.out _ _ hS (fun _ => ?_)
    clear hK
    refine wpAnyH_take (i := 9) (v := .int .u8 (cur + x * 2 ^ (k % 8))) rfl (by kernel_rfl) (by kernel_rfl) (by kernel_rfl) (fun _ _ _ h => h) (.inl ⟨by simp [Region.wanted], fun X hX => ?_⟩) hS ?_
    · go_simp
      rw [HJ.out]
    refine wpAnyH_take (i := 10) (v := .pointer (some ⟨w.heap.size, k / 8, none⟩)) rfl (by kernel_rfl) (by kernel_rfl) (by kernel_rfl) (fun _ _ _ h => h) (.inl ⟨by simp [Region.wanted], fun X hX => ?_⟩) hS ?_
    · go_simp
      rw [if_pos ⟨by omega, by omega⟩, show ((k : Int) / 8).toNat = k / 8 by omega]
    refine wpAnyH_ready (rs := [11]) (by kernel_rfl) (by simp) (AllReadyH.cons rfl (fun K hK => ?_) AllReadyH.nil)
    go_simp
    refine hK.out _ _ ?_ (fun _ => ?_)
    · show (W2.setCell ⟨w.heap.size, k / 8, none⟩ _).cell? _ = _
      rw [World.cell?_setCell_other _ _ _ _ (by intro e; injection e with e1 _; omega)]
      exact hcv
    clear hK
    refine wpAnyH_done (by kernel_rfl) ?_ _
    have hfs : Fr (fun k => k = w.heap.size) W2 (W2.setCell ⟨w.heap.size, k / 8, none⟩ (.int .u8 (cur + x * 2 ^ (k % 8)))) := Fr.setCell (M := fun k => k = w.heap.size) W2 ⟨w.heap.size, k / 8, none⟩ _ (.inl rfl)
    refine ⟨hfs.trans (Fr.drew _ _), ?_, ((HFR.out.then_ HF2.out (fun i hi h => absurd (show i = W0.heap.size + 1 from h) (by omega))).trans hfs).trans (Fr.drew _ _)⟩
    have hput := HR2.out.put (k / 8) (cur + x * 2 ^ (k % 8))
    have hset := pkL_set (bitsL zs p k) x m (by rw [bitsL_length]; exact hk8)
    rw [bitsL_length, HC.out] at hset
    rw [hset] at hput
    rw [bitsL_succ, HX.out]
    exact hput
  · intro W hsz hI hK
    obtain ⟨hrow, hfr⟩ := hI
    have hs := S0.out
    have hBa : Ba < w.heap.size := (Array.getElem?_eq_some_iff.1 HA.out).1
    have hba : W.heap[Ba]? = some (.cells #[.int .i64 p] 3 (0, 0)) := (hfr.block Ba (by omega) (fun e => absurd (show Ba = w.heap.size from e) (by omega))).trans ((F0.out.block Ba hBa).trans HA.out)
    have hc1 := Num.blk_cell hba
    have hc2 := Num.blk_free hba
    have hcv : W.cell? ⟨w.heap.size + 1, 0, none⟩ = some (.slice (some ⟨w.heap.size, 0, none⟩) m m) := hfr.cell (Num.blk_cell B1.out) (fun e => absurd (show w.heap.size + 1 = w.heap.size from e) (by omega))
    have hcv2 : ∀ u, (W.setCell ⟨Ba, 0, none⟩ u).cell? ⟨w.heap.size + 1, 0, none⟩ = some (.slice (some ⟨w.heap.size, 0, none⟩) m m) := fun u => by
      rw [World.cell?_setCell_other _ _ _ _ (by intro e; injection e with e1 _; omega)]
      exact hcv
    have hK2 : ∀ u, (W.setCell ⟨Ba, 0, none⟩ u).heap[W0.heap.size]? = some (.deferred (some [])) := fun u => (Below.heap_setCell W ⟨Ba, 0, none⟩ u W0.heap.size (by show W0.heap.size ≠ Ba; omega)).trans hK
    have HK2 := Lib.hid hK2
    have HR := Lib.hid hrow
    have HF := Lib.hid hfr
    have HB := Lib.hid hba
    clear hrow hfr hK hK2 hba
    gi_wp2
    refine leave_one rfl (HK2.out _) (results_tmp rfl _ _ _) ⟨w.heap.size, rfl, Nat.le_refl _, ?_, ?_, ?_⟩
    · exact (World.putObj_heap_other (by omega)).trans ((Below.heap_setCell W ⟨Ba, 0, none⟩ _ w.heap.size (by show w.heap.size ≠ Ba; omega)).trans HR.out)
    · rw [Int.natCast_add]
      exact (World.putObj_heap_other (by omega)).trans (Num.blk_put HB.out _)
    · have h1 : Fr (fun k => k = Ba) w W := (Fr.of_below (M := fun k => k = Ba) F0.out).then_ HF.out (fun i hi h => absurd (show i = w.heap.size from h) (by omega))
      have h2 : Fr (fun k => k = Ba) W (W.setCell ⟨Ba, 0, none⟩ (.int .i64 ((p : Int) + n))) := Fr.setCell (M := fun k => k = Ba) W ⟨Ba, 0, none⟩ _ (.inl rfl)
      exact (h1.trans h2).then_ (Fr.putObj (M := fun k => k = W0.heap.size) _ W0.heap.size (.deferred none) (.inl rfl)) (fun i hi h => absurd (show i = W0.heap.size from h) (by omega))
end Go.Proofs.YtokebpeplopjhaaDoor.Num
namespace Go.Proofs.YtokebpeplopjhaaDoor.Mp
open Go.RowKit Go.Shelf Go.Proofs.YtokebpeplopjhaaDoor.Rng Go.Proofs.YtokebpeplopjhaaDoorW.PrintWords Go.Proofs.YtokebpeplopjhaaDoorW.PrintMore Go.Proofs.YtokebpeplopjhaaDoorW.PrintLast

/-- A value for a place. -/
abbrev Vl := (Int × Int) × List Int
abbrev kV : Kd Vl := Kd.pair (Kd.pair (Kd.int .u16) (Kd.int .u8)) (Kd.slice 5 kB)
def outV (b : List Int) (at_ n : Nat) : List Int := pkL (bitsL b at_ n) ((n + 7) / 8)
def unpA (o : Option DD) (b : List Int) : List Mp → Nat → List Vl → List Vl × Int
  | [], _, acc => (acc, 0)
  | m :: r, at_, acc => if gapC m then unpA o b r (at_ + m.bits.toNat) acc
    else if (mayW o m.ix m.sub (outV b at_ m.bits.toNat)).2 ≠ 0 then ([], (mayW o m.ix m.sub (outV b at_ m.bits.toNat)).2)
    else unpA o b r (at_ + m.bits.toNat) (acc ++ [((m.ix, m.sub), outV b at_ m.bits.toNat)])
def unpackC (o : Option DD) (l : List Mp) (b : List Int) : List Vl × Int :=
  if checkC o l false ≠ 0 then ([], checkC o l false) else if b.length < sizeC l then ([], 0x06070010) else unpA o b l 0 []
theorem info_v : (Tryd.prog.info? 36).map (fun i => (i.zero, i.size, i.bytes)) = some (some (.agg #[.int .u16 0, .int .u8 0, .slice none 0 0]), 3, 32) := by kernel_rfl
theorem R_fr {α : Type} {d : Kd α} {e base : Nat} {v : Value} {xs : List α} {M : Nat → Prop} {w W : World} (h : Kd.R d e w base (fun _ => True) v xs) (hf : Fr M w W) (hM : ∀ k, base ≤ k → ¬ M k) : Kd.R d e W base (fun _ => True) v xs :=
  Kd.R_mono (Kd.R_step (Kd.R_bound h) (fun k hk hlt => hf.block k hlt (hM k hk.2.1))) (fun _ _ => trivial)
/-- What Unpack tells. -/
def UnpSaid (w : World) (r : List Vl × Int) (e : Ending) (w' : World) : Prop := ∃ v base, e = .returned (.tuple #[v, .int .u32 r.2]) ∧ w.heap.size ≤ base ∧ Kd.R kV 36 w' base (fun _ => True) v r.1 ∧ Below w.heap.size w w'
theorem R_rowB {w : World} {g base : Nat} {zs : List Int} (h : Go.Proofs.YtokebpeplopjhaaDoor.Num.RowB w g zs) (hb : base ≤ g) (hl : zs.length ≤ 1000) : Kd.R kB 5 w base (fun k => k = g) (.slice (some ⟨g, 0, none⟩) zs.length zs.length) zs := by
  refine Kd.R_of_own (enc := Value.int .u8) (h1 := fun _ => rfl) ⟨by simp [encs], .inr ⟨g, zs.length, _, rfl, hb, h, Nat.le_refl _, ?_, by simp, ?_⟩⟩ (fun k hk => ?_)
  · have hmx : maxLen = 9223372036854775807 := rfl
    omega
  · simp only [encs, Nat.mul_one]
    exact List.take_of_length_le (by simp)
  · simp [Value.ownBlock] at hk
    exact hk.symm
theorem rowB_rd {w : World} {g : Nat} {zs : List Int} (h : Go.Proofs.YtokebpeplopjhaaDoor.Num.RowB w g zs) (hl : zs.length ≤ 1000) : Rd w (some ⟨g, 0, none⟩) zs := by
  refine ⟨by omega, fun _ => ⟨_, rfl, fun j hj => ?_⟩⟩
  rw [show (⟨g, 0, none⟩ : Addr).add j = ⟨g, j, none⟩ from add_plain _ _]
  exact (h.cell j hj).1
theorem kV_M {w : World} {g base m : Nat} {ix sub : Int} {zs : List Int} (h : Go.Proofs.YtokebpeplopjhaaDoor.Num.RowB w g zs) (hb : base ≤ g) (hm : zs.length = m) (hl : zs.length ≤ 1000) : kV.M w base (fun k => k = g) ((ix, sub), zs) [.int .u16 ix, .int .u8 sub, .slice (some ⟨g, 0, none⟩) m m] := by
  subst hm
  exact ⟨[.int .u16 ix, .int .u8 sub], [_], rfl, ⟨[.int .u16 ix], [.int .u8 sub], rfl, rfl, rfl⟩, ⟨_, rfl, R_rowB h hb hl⟩⟩
theorem outV_length (b : List Int) (a n : Nat) : (outV b a n).length = (n + 7) / 8 := pkL_length _ _
theorem outV_byt (b : List Int) (a n : Nat) : Byt (outV b a n) := pkL_byt (bits_bitsL _ _ _) _
set_option maxRecDepth 100000 in
set_option maxHeartbeats 4000000 in
theorem unpack_any (B : Nat) (v : Value) (o : Option DD) (l : List Mp) (A : Option Addr) (c : Nat) (Ab : Option Addr) (cb : Nat) (b : List Int) (w : World) (h : DictV B w v o) (ht : Tbl w) (hm : MsAt w A l) (hl : l.length ≤ 1000000) (hmw : ∀ m ∈ l, m.Wf) (hwf : ∀ i s, (findC o i s).1.Wf) (hb : Arg w Ab cb b) :
    Calls Tryd.prog 27 #[v, .slice A l.length c, .slice Ab b.length cb] w (UnpSaid w (unpackC o l b)) := by
  obtain ⟨r, hr⟩ : ∃ r, unpackC o l b = r := ⟨_, rfl⟩
  rw [hr]
  unfold unpackC at hr
  have hb0 : Below w.heap.size w (w.alloc (.cells #[.slice Ab b.length cb] 34)) := below_alloc (Below.refl _ _) _
  have HCK := Aside0.mk (mcheck_any B v o l A c false _ (h.below hb0) (ht.below hb0) (hm.below hb0) hl hmw hwf)
  have HD := Aside0.mk h
  have HT := Aside0.mk ht
  have HM := Aside0.mk hm
  have HMW := Aside0.mk hmw
  have HWF := Aside0.mk hwf
  have HBA := Aside0.mk hb
  have HB0 := Aside0.mk hb0
  have HBX := Aside0.mk (blk_new w (.cells #[.slice Ab b.length cb] 34))
  obtain ⟨q, hq⟩ : ∃ q, checkC o l false = q := ⟨_, rfl⟩
  rw [hq] at hr HCK
  obtain ⟨n, hn⟩ : ∃ n, l.length = n := ⟨_, rfl⟩
  have HN := Aside0.mk hn
  have HQ := Aside0.mk hq
  obtain ⟨nb, hnb⟩ : ∃ nb, b.length = nb := ⟨_, rfl⟩
  have HNB := Aside0.mk hnb
  clear h ht hm hmw hwf hb hb0 hq
  by_cases hq0 : q = 0
  · subst hq0
    rw [if_neg (by simp)] at hr
    have hall : (∀ m ∈ l, oneC o false m = 0) ∧ sumC l ≤ 64 := by
      have h0 := HQ.out
      unfold checkC at h0
      split at h0
      · simp at h0
      · exact check_all (by omega) h0
    have HALL := Aside0.mk hall
    have hbpos : ∀ m ∈ l, 0 ≤ m.bits := fun m hm => by have := one_bits (hall.1 m hm); omega
    have HSZ := Aside0.mk fun W (hW : Below w.heap.size w W) => msize_any l A c W (HM.out.below hW) (by omega) hbpos hall.2
    have HBP := Aside0.mk hbpos
    clear hall hbpos
    rw [hn] at HCK HSZ hl ⊢
    rw [hnb] at hr HCK HBX HB0 ⊢
    go_enter Tryd.func27, Tryd.ntmps27
    go_wp2_with (go_at_call 21; refine HCK.out.mono ?_; rintro e w1 ⟨rfl, hb1⟩; have HB1 := Aside0.mk (HB0.out.trans (hb1.mono (by simp))); have HBX1 := Aside0.mk (blk_below HBX.out hb1); clear hb1)
    have hS0 : Below w1.heap.size w1 w1 := Below.refl _ _
    have z0 : ∀ X, Below w1.heap.size w1 X → X.cell? ⟨w.heap.size, 0, none⟩ = some (.slice Ab nb cb) := fun X hX => pw_cell_below hX (blk_cell HBX1.out 0)
    go_region_held3 (fun X => Below w1.heap.size w1 X) (first | assumption | exact below_step (by assumption) (by assumption) | exact below_drew (by assumption))
      ((go_at_call 23; refine (HSZ.out _ (HB1.out.trans ((show Below w1.heap.size w1 _ by assumption).mono HB1.out.size))).mono ?_; rintro e w2 ⟨rfl, hb2⟩))
    have HB2 := Aside0.mk (HB1.out.trans ((show Below w1.heap.size w1 w2 by assumption).mono HB1.out.size))
    have HBX2 := Aside0.mk (blk_below HBX1.out (show Below w1.heap.size w1 w2 by assumption))
    by_cases hlen : nb < sizeC l
    · rw [if_pos hlen] at hr
      subst hr
      have hd : decide (nb < sizeC l) = true := decide_eq_true hlen
      go_wp2
      go_ret2
      exact ⟨_, w.heap.size, rfl, Nat.le_refl _, Kd.R_nil _ _ _ _ _, HB2.out⟩
    · rw [if_neg hlen] at hr
      have hd : decide (nb < sizeC l) = false := decide_eq_false hlen
      have HR := Aside0.mk hr
      have HLEN := Aside0.mk hlen
      clear hr hS0 z0
      go_wp2
      rw [hd]
      clear hlen hd
      go_loopw [9, 31] (fun ov i wr => ∃ (k at_ : Nat) (acc : List Vl), k ≤ n ∧ i = .int .i64 k ∧ Aside0 (unpA o b l 0 [] = unpA o b (l.drop k) at_ acc) ∧ Aside0 (sumC (l.take k) = at_ ∧ acc.length ≤ k) ∧ Aside0 (Kd.R kV 36 wr (w2.heap.size + 1) (fun _ => True) ov acc) ∧ Aside0 (wr.heap[w2.heap.size]? = some (.cells #[.int .i64 at_] 3 (0, 0))) ∧ Aside0 (Below w2.heap.size w2 wr)) (fun _ i _ => n - (intOf i).toNat)
      case atStart => exact ⟨0, 0, [], Nat.zero_le _, rfl, ⟨rfl⟩, ⟨by simp [sumC], by simp⟩, ⟨Kd.R_nil _ _ _ _ _⟩, ⟨blk_new _ _⟩, ⟨below_alloc (Below.refl _ _) _⟩⟩
      case round =>
        obtain ⟨k, at_, acc, hk, rfl, HU, HAT, HRA, HBA2, HB⟩ := hrel
        by_cases hlt : k < n
        · obtain ⟨m, hmk⟩ : ∃ m, l[k]? = some m := ⟨_, List.getElem?_eq_getElem (by rw [HN.out]; exact hlt)⟩
          have hmem := List.mem_of_getElem? hmk
          have HW := Aside0.mk (HB2.out.trans (HB.out.mono HB2.out.size))
          obtain ⟨ad, rfl, y0, y1, y2⟩ := HM.out.below HW.out k m hmk
          obtain ⟨hw1, hw2, hw3⟩ := HMW.out m hmem
          have hone := HALL.out.1 m hmem
          have hbb := one_bits hone
          obtain ⟨nn, hnn⟩ : ∃ nn : Nat, m.bits = (nn : Int) := ⟨m.bits.toNat, by omega⟩
          have hdrop : l.drop k = m :: l.drop (k + 1) := by
            have hkl : k < l.length := by rw [HN.out]; exact hlt
            rw [List.drop_eq_getElem_cons hkl]
            rw [List.getElem?_eq_getElem hkl] at hmk
            injection hmk with hmk
            rw [hmk]
          have hsum := sumC_take l k m hmk
          have hsle := (sumC_le HBP.out (k + 1)).2
          have hszc : at_ + nn ≤ 8 * b.length := by
            have h1 := HLEN.out
            have h2 := HNB.out
            have h3 := HAT.out.1
            have h4 := HALL.out.2
            unfold sizeC at h1
            omega
          have h64 : at_ + nn ≤ 64 := by
            have h3 := HAT.out.1
            have h4 := HALL.out.2
            omega
          have HSUM := Aside0.mk (show sumC (l.take (k + 1)) = ((at_ + nn : Nat) : Int) by rw [hsum, HAT.out.1, hnn]; omega)
          have hu := HU.out
          rw [hdrop, show unpA o b (m :: l.drop (k + 1)) at_ acc = if gapC m then unpA o b (l.drop (k + 1)) (at_ + m.bits.toNat) acc
            else if (mayW o m.ix m.sub (outV b at_ m.bits.toNat)).2 ≠ 0 then ([], (mayW o m.ix m.sub (outV b at_ m.bits.toNat)).2)
            else unpA o b (l.drop (k + 1)) (at_ + m.bits.toNat) (acc ++ [((m.ix, m.sub), outV b at_ m.bits.toNat)]) from rfl, show m.bits.toNat = nn by omega] at hu
          obtain ⟨ix, sub, bits⟩ := m
          simp only at hnn hw1 hw2 hw3 y0 y1 y2 hu hbb
          subst hnn
          have hb1 : Below wr.heap.size wr (wr.alloc (.cells #[.int .u16 ix, .int .u8 sub, .int .i64 nn] 48)) := below_alloc (Below.refl _ _) _
          have HROW := Aside0.mk (blk_new wr (.cells #[.int .u16 ix, .int .u8 sub, .int .i64 nn] 48))
          have hbx := blk_below (blk_below HBX2.out HB.out) hb1
          have HTK := Aside0.mk (Go.Proofs.YtokebpeplopjhaaDoor.Num.take_any w.heap.size w2.heap.size cb Ab b at_ nn (wr.alloc (.cells #[.int .u16 ix, .int .u8 sub, .int .i64 nn] 48)) (by rw [HNB.out]; exact blk_cell hbx 0) (blk_below HBA2.out hb1) ((HBA.out.below HW.out).below hb1).rd HBA.out.byt hszc (by omega))
          have HU2 := Aside0.mk hu
          have HB1' := Aside0.mk hb1
          have hsz2 : w2.heap.size < wr.heap.size := blk_lt HBA2.out
          clear hu hsum hsle hszc hdrop hmk hone hb1 hbx hmem
          by_cases hg : gapC ⟨ix, sub, nn⟩
          · have HGAP := Aside0.mk (decide_eq_true hg)
            go_wp2_with (first
              | (go_at_call 79; refine HTK.out.mono ?_; rintro e w4 ⟨gt, rfl, hgt, hrb, hba4, hf4⟩; have HRB4 := Aside0.mk hrb; have HBA4 := Aside0.mk hba4; have HF4 := Aside0.mk hf4; have HGT := Aside0.mk hgt; have HGT2 := Aside0.mk (show w2.heap.size + 1 ≤ gt by simp at hgt; omega); have HB4 := Aside0.mk ((HB.out.trans (HB1'.out.mono HB.out.size)).trans (hf4.below (B := w2.heap.size) (fun jj hj => ⟨by simp; omega, fun e => absurd (show jj = w2.heap.size from e) (by omega)⟩))); have HRW4 := Aside0.mk ((hf4.block wr.heap.size (by simp) (fun e => absurd (show wr.heap.size = w2.heap.size from e) (by omega))).trans HROW.out); obtain ⟨c0, c1, c2, -⟩ := held3 HRW4.out; have HRA4 := Aside0.mk (R_fr (Kd.R_below HRA.out HB1'.out) hf4 (fun jj hj e => absurd (show jj = w2.heap.size from e) (by omega))); have HW4 := Aside0.mk (HB2.out.trans (HB4.out.mono HB2.out.size)); clear hrb hba4 hf4 hgt)
              | (go_at_call 80; refine (gap_any ix sub nn hw1 _ (HT.out.below HW4.out)).mono ?_; rw [HGAP.out]; rintro e w5 ⟨rfl, hb5⟩; have HB5 := Aside0.mk (HB4.out.trans (hb5.mono HB4.out.size)); have HRA5 := Aside0.mk (Kd.R_below HRA4.out hb5); have HBA5 := Aside0.mk (blk_below HBA4.out hb5); have HRB5 := Aside0.mk (show Go.Proofs.YtokebpeplopjhaaDoor.Num.RowB w5 gt (outV b at_ nn) from blk_below HRB4.out hb5); have HW5 := Aside0.mk (HB2.out.trans (HB5.out.mono HB2.out.size)); obtain ⟨d0, d1, d2, -⟩ := held3 (blk_below HRW4.out hb5); have HRW5 := Aside0.mk (blk_below HRW4.out hb5); clear hb5))
            go_roundw
            case rel =>
              refine ⟨k + 1, at_ + nn, acc, by omega, by go_num, ⟨?_⟩, ⟨HSUM.out, by have := HAT.out.2; omega⟩, HRA5, ⟨HBA5.out⟩, HB5⟩
              rw [HU2.out, if_pos hg]
            case measure => simp [intOf]; omega
          · have HGAP := Aside0.mk (decide_eq_false hg)
            obtain ⟨⟨t1, t2⟩, hmw2⟩ : ∃ q, mayW o ix sub (outV b at_ nn) = q := ⟨_, rfl⟩
            have HMW2 := Aside0.mk hmw2
            have hu2 := HU2.out
            rw [if_neg hg, hmw2] at hu2
            simp only at hu2
            by_cases ht2 : t2 = 0
            · subst ht2
              rw [if_neg (by simp)] at hu2
              have HU3 := Aside0.mk hu2
              clear hu2 hmw2
              go_wp2_with (first
                | (go_at_call 79; refine HTK.out.mono ?_; rintro e w4 ⟨gt, rfl, hgt, hrb, hba4, hf4⟩; have HRB4 := Aside0.mk hrb; have HBA4 := Aside0.mk hba4; have HF4 := Aside0.mk hf4; have HGT := Aside0.mk hgt; have HGT2 := Aside0.mk (show w2.heap.size + 1 ≤ gt by simp at hgt; omega); have HB4 := Aside0.mk ((HB.out.trans (HB1'.out.mono HB.out.size)).trans (hf4.below (B := w2.heap.size) (fun jj hj => ⟨by simp; omega, fun e => absurd (show jj = w2.heap.size from e) (by omega)⟩))); have HRW4 := Aside0.mk ((hf4.block wr.heap.size (by simp) (fun e => absurd (show wr.heap.size = w2.heap.size from e) (by omega))).trans HROW.out); obtain ⟨c0, c1, c2, -⟩ := held3 HRW4.out; have HRA4 := Aside0.mk (R_fr (Kd.R_below HRA.out HB1'.out) hf4 (fun jj hj e => absurd (show jj = w2.heap.size from e) (by omega))); have HW4 := Aside0.mk (HB2.out.trans (HB4.out.mono HB2.out.size)); clear hrb hba4 hf4 hgt)
                | (go_at_call 80; refine (gap_any ix sub nn hw1 _ (HT.out.below HW4.out)).mono ?_; rw [HGAP.out]; rintro e w5 ⟨rfl, hb5⟩; have HB5 := Aside0.mk (HB4.out.trans (hb5.mono HB4.out.size)); have HRA5 := Aside0.mk (Kd.R_below HRA4.out hb5); have HBA5 := Aside0.mk (blk_below HBA4.out hb5); have HRB5 := Aside0.mk (show Go.Proofs.YtokebpeplopjhaaDoor.Num.RowB w5 gt (outV b at_ nn) from blk_below HRB4.out hb5); have HW5 := Aside0.mk (HB2.out.trans (HB5.out.mono HB2.out.size)); obtain ⟨d0, d1, d2, -⟩ := held3 (blk_below HRW4.out hb5); have HRW5 := Aside0.mk (blk_below HRW4.out hb5); clear hb5)
                | (go_at_call 26; have hmay := may_any B v o ix sub hw1 hw2 (some ⟨gt, 0, none⟩) ((nn + 7) / 8) (outV b at_ nn) w5 (HD.out.below HW5.out) (HT.out.below HW5.out) ⟨rowB_rd HRB5.out (by rw [outV_length]; omega), outV_byt _ _ _, Nat.le_of_eq (outV_length _ _ _), by omega⟩ (HWF.out ix sub); rw [outV_length, HMW2.out] at hmay; refine hmay.mono ?_; clear hmay; rintro e w6 ⟨rfl, hb6⟩; have HB6 := Aside0.mk (HB5.out.trans (hb6.mono HB5.out.size)); have HRA6 := Aside0.mk (Kd.R_below HRA5.out hb6); have HBA6 := Aside0.mk (blk_below HBA5.out hb6); have HRB6 := Aside0.mk (show Go.Proofs.YtokebpeplopjhaaDoor.Num.RowB w6 gt (outV b at_ nn) from blk_below HRB5.out hb6); obtain ⟨e0, e1, e2, -⟩ := held3 (blk_below HRW5.out hb6); clear hb6)
                | ((with_reducible refine gate_builtin (b := .append) (xs := #[.tmp 52, .tmp 57]) rfl ?_); at_builtin; refine Kd.R_append kV (w0 := w6) (w2.heap.size + 1) rfl (.tmp 52) (.tmp 57) 24 36 (.agg #[.int .u16 0, .int .u8 0, .slice none 0 0]) 32 rfl Tryd.underlying24 info_v rfl (by decide) (by decide) _ acc ((ix, sub), outV b at_ nn) [.int .u16 ix, .int .u8 sub, .slice (some ⟨gt, 0, none⟩) ((nn + 7) / 8) ((nn + 7) / 8)] (fun _ => True) (fun k => k = gt) rfl rfl (kV_M HRB6.out HGT2.out (outV_length _ _ _) (by rw [outV_length]; omega)) (fun kk hkk => ⟨trivial, fun ee => by have := ((Kd.R_bound HRA.out).1 kk ee.symm).2.2; have := HGT.out; have hq := (show kk = gt from hkk); simp at this; omega⟩) (fun _ _ => trivial) HRA6.out (Below.refl _ _) (by have := blk_lt HBA6.out; omega) (by have := HAT.out.2; omega) ?_; intro v7 w7 hown hb7 hg7 hat7; have HR7 := Aside0.mk hown; have HB7 := Aside0.mk (HB6.out.trans (hb7.mono (Nat.le_succ _))); have HBA7 := Aside0.mk ((hb7.block w2.heap.size (Nat.lt_succ_self _)).trans HBA6.out); clear hown hb7 hg7 hat7))
              go_roundw
              case rel =>
                exact ⟨k + 1, at_ + nn, acc ++ [((ix, sub), outV b at_ nn)], by omega, by go_num, HU3, ⟨HSUM.out, by have := HAT.out.2; simp; omega⟩, HR7, ⟨HBA7.out⟩, HB7⟩
              case measure => simp [intOf]; omega
            · have f1 : (t2 == 0) = false := by simpa using ht2
              have f2 : (t2 != 0) = true := by simpa using ht2
              rw [if_pos ht2] at hu2
              have hrr : r = ([], t2) := by rw [← HR.out, hu2]
              subst hrr
              clear hu2 hmw2
              go_wp2_with (first
                | (go_at_call 79; refine HTK.out.mono ?_; rintro e w4 ⟨gt, rfl, hgt, hrb, hba4, hf4⟩; have HRB4 := Aside0.mk hrb; have HBA4 := Aside0.mk hba4; have HF4 := Aside0.mk hf4; have HGT := Aside0.mk hgt; have HGT2 := Aside0.mk (show w2.heap.size + 1 ≤ gt by simp at hgt; omega); have HB4 := Aside0.mk ((HB.out.trans (HB1'.out.mono HB.out.size)).trans (hf4.below (B := w2.heap.size) (fun jj hj => ⟨by simp; omega, fun e => absurd (show jj = w2.heap.size from e) (by omega)⟩))); have HRW4 := Aside0.mk ((hf4.block wr.heap.size (by simp) (fun e => absurd (show wr.heap.size = w2.heap.size from e) (by omega))).trans HROW.out); obtain ⟨c0, c1, c2, -⟩ := held3 HRW4.out; have HRA4 := Aside0.mk (R_fr (Kd.R_below HRA.out HB1'.out) hf4 (fun jj hj e => absurd (show jj = w2.heap.size from e) (by omega))); have HW4 := Aside0.mk (HB2.out.trans (HB4.out.mono HB2.out.size)); clear hrb hba4 hf4 hgt)
                | (go_at_call 80; refine (gap_any ix sub nn hw1 _ (HT.out.below HW4.out)).mono ?_; rw [HGAP.out]; rintro e w5 ⟨rfl, hb5⟩; have HB5 := Aside0.mk (HB4.out.trans (hb5.mono HB4.out.size)); have HRA5 := Aside0.mk (Kd.R_below HRA4.out hb5); have HBA5 := Aside0.mk (blk_below HBA4.out hb5); have HRB5 := Aside0.mk (show Go.Proofs.YtokebpeplopjhaaDoor.Num.RowB w5 gt (outV b at_ nn) from blk_below HRB4.out hb5); have HW5 := Aside0.mk (HB2.out.trans (HB5.out.mono HB2.out.size)); obtain ⟨d0, d1, d2, -⟩ := held3 (blk_below HRW4.out hb5); have HRW5 := Aside0.mk (blk_below HRW4.out hb5); clear hb5)
                | (go_at_call 26; have hmay := may_any B v o ix sub hw1 hw2 (some ⟨gt, 0, none⟩) ((nn + 7) / 8) (outV b at_ nn) w5 (HD.out.below HW5.out) (HT.out.below HW5.out) ⟨rowB_rd HRB5.out (by rw [outV_length]; omega), outV_byt _ _ _, Nat.le_of_eq (outV_length _ _ _), by omega⟩ (HWF.out ix sub); rw [outV_length, HMW2.out] at hmay; refine hmay.mono ?_; clear hmay; rintro e w6 ⟨rfl, hb6⟩; have HB6 := Aside0.mk (HB5.out.trans (hb6.mono HB5.out.size)); have HRA6 := Aside0.mk (Kd.R_below HRA5.out hb6); have HBA6 := Aside0.mk (blk_below HBA5.out hb6); have HRB6 := Aside0.mk (show Go.Proofs.YtokebpeplopjhaaDoor.Num.RowB w6 gt (outV b at_ nn) from blk_below HRB5.out hb6); obtain ⟨e0, e1, e2, -⟩ := held3 (blk_below HRW5.out hb6); clear hb6))
              go_ret2
              exact ⟨_, w.heap.size, rfl, Nat.le_refl _, Kd.R_nil _ _ _ _ _, HB2.out.trans (HB6.out.mono HB2.out.size)⟩
        · obtain rfl : k = n := by omega
          have hrr : r = (acc, 0) := by
            rw [← HR.out, HU.out, List.drop_of_length_le (by rw [HN.out]; exact Nat.le_refl _)]
            rfl
          subst hrr
          go_wp2
          go_ret2
          exact ⟨_, w2.heap.size + 1, rfl, by have := HB2.out.size; omega, HRA.out, HB2.out.trans (HB.out.mono HB2.out.size)⟩
  · have g1 : (q == 0) = false := by simpa using hq0
    have g2 : (q != 0) = true := by simpa using hq0
    rw [if_pos hq0] at hr
    subst hr
    rw [hn] at HCK ⊢
    rw [hnb] at HCK HB0 ⊢
    go_enter Tryd.func27, Tryd.ntmps27
    go_wp2_with (go_at_call 21; refine HCK.out.mono ?_; rintro e w1 ⟨rfl, hb1⟩; have HB1 := Aside0.mk (HB0.out.trans (hb1.mono (by simp))); clear hb1)
    go_ret2
    exact ⟨_, w.heap.size, rfl, Nat.le_refl _, Kd.R_nil _ _ _ _ _, HB1.out⟩
end Go.Proofs.YtokebpeplopjhaaDoor.Mp
