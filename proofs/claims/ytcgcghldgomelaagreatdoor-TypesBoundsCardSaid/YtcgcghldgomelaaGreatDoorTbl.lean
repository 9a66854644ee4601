/- The table of types; Right, Size, Zero. -/
import Derived.Test.YtcgcghldgomelaaGreatDoorMp
import Derived.Test.YtcgcghldgomelaaGreatDoorTp
import Derived.Test.YtcgcghldgomelaaGreatDoorKim
namespace Go.Proofs.YtcgcghldgomelaaGreatDoor.Mp
open Go.RowKit Go.Shelf Go.Proofs.YtcgcghldgomelaaGreatDoor.Rng Go.Proofs.YtcgcghldgomelaaGreatDoorW.PrintWords Go.Proofs.YtcgcghldgomelaaGreatDoorW.PrintMore

theorem law_u8 : Maps.Keyed Tryz.prog 5 := Maps.int_keyed Tryz.underlying5
theorem wf_int {k : IntKind} {n : Int} (h0 : k.min ≤ n) (h1 : n ≤ k.max) : (Lit.int k n).wf = true := by simp [Lit.wf]; omega
theorem key_u8 {i : Int} (hi : 0 ≤ i ∧ i < 256) : keyOf Tryz.prog 5 (.int .u8 i) = some (.int .u8 i) := Maps.keyOf_int_mk Tryz.underlying5 (wf_int (by show (0 : Int) ≤ i; omega) (by show i ≤ 255; omega))

/-- The table of types, below B. -/
def tblF : Value → Option Value
  | .int .u8 t => if knd t = 0 then none else some (.agg #[.int .u8 (knd t), .int .i64 (siz t)])
  | _ => none
def TblB (B : Nat) (w : World) : Prop := ∃ bm, bm < B ∧ 0 < B ∧ w.cell? ⟨0, 0, none⟩ = some (.map (some bm)) ∧ MapAt Tryz.prog 5 w bm 18 tblF
def Tbl (w : World) : Prop := TblB w.heap.size w
theorem TblB.below {B : Nat} {w w' : World} (h : TblB B w) (hb : Below B w w') : TblB B w' := by
  obtain ⟨bm, h1, h2, h3, h4⟩ := h
  exact ⟨bm, h1, h2, (hb.cell h2).trans h3, h4.block (hb.block bm h1)⟩
theorem TblB.mono {B B' : Nat} {w : World} (h : TblB B w) (hB : B ≤ B') : TblB B' w := by
  obtain ⟨bm, h1, h2, h3, h4⟩ := h
  exact ⟨bm, by omega, by omega, h3, h4⟩
theorem below_drewN {B : Nat} {a w : World} (h : Below B a w) (m : Nat) : Below B a (w.drewN m) := ⟨h.os, h.tape, h.output, h.size, h.block⟩
theorem Tbl.below {w w' : World} (h : Tbl w) (hb : Below w.heap.size w w') : Tbl w' := (TblB.below h hb).mono hb.size
theorem TblB.tbl {B : Nat} {w : World} (h : TblB B w) : Tbl w := by
  obtain ⟨bm, h1, h2, h3, h4⟩ := h
  exact ⟨bm, h4.lt, World.block_lt_of_cell? w _ h3, h3, h4⟩
/-- What the table says: its cell, and the look-up at a type. -/
theorem Tbl.at_ {w : World} (h : Tbl w) {t : Int} (ht : 0 ≤ t ∧ t < 256) : ∃ bm, w.cell? ⟨0, 0, none⟩ = some (.map (some bm)) ∧
    (Instr.lookup 61 (.map (some bm)) (.int .u8 t) false).run Tryz.prog w = .ok (.agg #[.int .u8 (knd t), .int .i64 (siz t)]) w := by
  obtain ⟨bm, _, _, h3, h4⟩ := h
  have hz : (zeroValue 60).run Tryz.prog w = .ok (.agg #[.int .u8 0, .int .i64 0]) w := by kernel_rfl
  have h5 := h4.look law_u8 Tryz.underlying61 hz (key_u8 ht) false
  refine ⟨bm, h3, h5.trans ?_⟩
  by_cases hk : knd t = 0
  · have hs := (siz_of t).2.2.2.2.2.2 hk
    simp [tblF, hk, hs]
  · simp [tblF, hk]
/-- .. behind draws too. -/
theorem Tbl.atN {w : World} (h : Tbl w) {t : Int} (ht : 0 ≤ t ∧ t < 256) : ∃ bm, w.cell? ⟨0, 0, none⟩ = some (.map (some bm)) ∧
    (Instr.lookup 61 (.map (some bm)) (.int .u8 t) false).run Tryz.prog w = .ok (.agg #[.int .u8 (knd t), .int .i64 (siz t)]) w ∧
    ∀ m, (Instr.lookup 61 (.map (some bm)) (.int .u8 t) false).run Tryz.prog (w.drewN m) = .ok (.agg #[.int .u8 (knd t), .int .i64 (siz t)]) (w.drewN m) := by
  obtain ⟨bm, h1, h2⟩ := h.at_ ht
  refine ⟨bm, h1, h2, fun m => ?_⟩
  obtain ⟨bm', h3, h4⟩ := (Tbl.below h (below_drewN (Below.refl _ _) m)).at_ ht
  have h5 : (w.drewN m).cell? ⟨0, 0, none⟩ = w.cell? ⟨0, 0, none⟩ := rfl
  rw [h5, h1] at h3
  cases h3
  exact h4
theorem fields_form (k n : Int) : (∀ w : World, (Instr.field 60 (.agg #[.int .u8 k, .int .i64 n]) 0).run Tryz.prog w = .ok (.int .u8 k) w) ∧ ∀ w : World, (Instr.field 60 (.agg #[.int .u8 k, .int .i64 n]) 1).run Tryz.prog w = .ok (.int .i64 n) w := ⟨fun _ => by kernel_rfl, fun _ => by kernel_rfl⟩
set_option maxRecDepth 100000 in
theorem right_any (t : Int) (ht : 0 ≤ t ∧ t < 256) (w : World) (h : Tbl w) : Calls Tryz.prog 33 #[.int .u8 t] w fun e w' => e = .returned (.bool (knd t != 0)) ∧ w' = w := by
  obtain ⟨bm, hc, hl⟩ := h.at_ ht
  obtain ⟨hf0, hf1⟩ := fields_form (knd t) (siz t)
  go_enter Tryz.func33, Tryz.ntmps33
  go_wp2
  go_ret
  exact ⟨rfl, rfl⟩
set_option maxRecDepth 100000 in
theorem size_any (t : Int) (ht : 0 ≤ t ∧ t < 256) (w : World) (h : Tbl w) : Calls Tryz.prog 31 #[.int .u8 t] w fun e w' => e = .returned (.tuple #[.int .i64 (siz t), .bool (decide (0 < siz t))]) ∧ Below w.heap.size w w' := by
  obtain ⟨bm, hc, hl, hln⟩ := h.atN ht
  obtain ⟨hf0, hf1⟩ := fields_form (knd t) (siz t)
  go_enter Tryz.func31, Tryz.ntmps31
  go_wp2
  go_quiet (fail)
  go_wp2
  go_ret2
  exact ⟨rfl, below_drewN (Below.refl _ _) _⟩
set_option maxRecDepth 100000 in
set_option maxHeartbeats 1000000 in
theorem zero_any (t : Int) (ht : 0 ≤ t ∧ t < 256) (w : World) (h : Tbl w) : Calls Tryz.prog 32 #[.int .u8 t] w fun e w' => ∃ v0_ : Value, e = .returned v0_ ∧ Kd.R kB 5 w' w.heap.size (fun _ => True) v0_ (List.replicate (siz t).toNat 0) ∧ Below w.heap.size w w' := by
  obtain ⟨bm, hc, hl⟩ := h.at_ ht
  obtain ⟨hf0, hf1⟩ := fields_form (knd t) (siz t)
  have hs := siz_cases t
  go_enter Tryz.func32, Tryz.ntmps32
  go_wp2_with ((with_reducible refine gate_dst (N := 7) rfl ?_); refine Kd.R_make kB (w0 := w) w.heap.size 5 rfl (N := 7) rfl 22 _ _ rfl (siz t) rfl rfl Tryz.underlying22 (.int .u8 0) 1 info_u8 rfl (by decide) (by decide) 0 (ok := fun _ => True) (okp := fun _ => True) rfl (fun _ hk => hk) trivial (by omega) (by omega) (Below.refl _ _) (Nat.le_refl _) ?_; intro v1 w1 hown hb hg hat; have HO := Aside0.mk hown; have HB := Aside0.mk hb; clear hown hb hg hat)
  go_ret
  exact ⟨_, rfl, HO.out, HB.out⟩
end Go.Proofs.YtcgcghldgomelaaGreatDoor.Mp
