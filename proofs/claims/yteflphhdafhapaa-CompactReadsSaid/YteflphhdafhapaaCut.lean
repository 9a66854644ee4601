/- compact.settings's cut, and the plain reading of bytes as settings. -/
import Derived.Test.YteflphhdafhapaaWri
import Derived.Test.YteflphhdafhapaaVal
import Derived.Laws.BitsLemmas
namespace Go.Proofs.Yteflphhdafhapaa.Rng
open Go.RowKit Go.Shelf Go.Proofs.YteflphhdafhapaaW.PrintWords Go.Proofs.YteflphhdafhapaaW.PrintMore

/-- The address of a cut from place 'at' on. -/
def cutA (A : Option Addr) (c pl : Nat) : Option Addr := if c = pl then A else A.map (·.add pl)
theorem cutA_C {w : World} {A : Option Addr} {c : Nat} {zs : List Int} {lo hi : Nat} (h : kB.C w A zs.length zs) (h1 : lo ≤ hi) (h2 : hi ≤ zs.length) (hc : zs.length ≤ c) :
    kB.C w (cutA A c lo) ((zs.take hi).drop lo).length ((zs.take hi).drop lo) := by
  have h := Kd.C_mid h h1 h2 hc
  rwa [show lo * kB.sz = lo from Nat.mul_one lo] at h
theorem run_cut (A : Option Addr) (n c : Nat) (lo m : Nat) (lo' hi' : Int) (e1 : lo' = lo) (e2 : hi' = ((lo + m : Nat) : Int)) (h2 : lo + m ≤ n) (hc : n ≤ c) (W : World) :
    (Instr.slice 25 (.slice A n c) (some (.int .i64 lo')) (some (.int .i64 hi')) none).run Try.prog W = .ok (.slice (cutA A c lo) m (c - lo)) W := by
  subst e1 e2
  obtain ⟨i0, hi0, hz0, hz1, hz2⟩ := info_parts info_u8
  have h := cut_mid (P := Try.prog) 25 5 .i64 .i64 Try.underlying25 hi0 1 hz1 A n c (lo : Int) ((lo + m : Nat) : Int) (by omega) (by omega) (by omega) hc W
  rw [h, Int.toNat_natCast, Int.toNat_natCast, Nat.mul_one, show lo + m - lo = m by omega]
  rfl
theorem run_cut_lo (A : Option Addr) (n c : Nat) (lo : Nat) (h1 : lo ≤ n) (W : World) :
    (Instr.slice 25 (.slice A n c) (some (.int .i64 (lo : Int))) none none).run Try.prog W = .ok (.slice (cutA A c lo) (n - lo) (c - lo)) W := by
  obtain ⟨i0, hi0, hz0, hz1, hz2⟩ := info_parts info_u8
  have hel : Try.prog.elem 25 = 5 := by simp [Program.elem, Try.underlying25]
  rw [run_slice_l W 25 A n c (by rw [hel]; exact Try.underlying25) .i64 (lo : Int) (Int.natCast_nonneg _) (by omega), hel]
  simp [sizeOf, typeInfo, hi0, hz1, sliced, Result.andThen, cutA]
theorem run_cut_hi (A : Option Addr) (n c : Nat) (hi : Nat) (h1 : hi ≤ n) (hc : n ≤ c) (W : World) :
    (Instr.slice 25 (.slice A n c) none (some (.int .i64 (hi : Int))) none).run Try.prog W = .ok (.slice A hi c) W := by
  obtain ⟨i0, hi0, hz0, hz1, hz2⟩ := info_parts info_u8
  have hel : Try.prog.elem 25 = 5 := by simp [Program.elem, Try.underlying25]
  have ha : (A.map fun x => x.add 0) = A := by cases A <;> simp [Addr.add]
  rw [run_slice_h W 25 A n c (by rw [hel]; exact Try.underlying25) .i64 (hi : Int) (Int.natCast_nonneg _) (by omega), hel]
  simp [sizeOf, typeInfo, hi0, hz1, sliced, Result.andThen, ha]

set_option maxRecDepth 100000 in
set_option maxHeartbeats 1000000 in
theorem cut_no (size : Int) (A : Option Addr) (n c bB aB pl : Nat) (W : World) (hb : W.cell? ⟨bB, 0, none⟩ = some (.slice A n c)) (ha : W.cell? ⟨aB, 0, none⟩ = some (.int .i64 (pl : Int))) (hn : n ≤ 9223372036854775807) (hp : pl ≤ n) (h : (n : Int) - pl < size) :
    Calls Try.prog 25 #[.int .i64 size, .pointer (some ⟨bB, 0, none⟩), .pointer (some ⟨aB, 0, none⟩)] W fun e w' => e = .returned (.tuple #[.slice none 0 0, .bool false]) ∧ W = w' := by
  go_enter Try.func25, Try.ntmps25
  go_wp2
  go_ret2
  exact ⟨rfl, rfl⟩
set_option maxRecDepth 100000 in
set_option maxHeartbeats 1000000 in
theorem cut_yes (size : Nat) (A : Option Addr) (n c bB aB pl : Nat) (W : World) (hb : W.cell? ⟨bB, 0, none⟩ = some (.slice A n c)) (ha : W.cell? ⟨aB, 0, none⟩ = some (.int .i64 (pl : Int))) (hf : W.frozen? ⟨aB, 0, none⟩ = false) (hne : bB ≠ aB) (hn : n ≤ 9223372036854775807) (hc : n ≤ c) (h : pl + size ≤ n) :
    Calls Try.prog 25 #[.int .i64 (size : Int), .pointer (some ⟨bB, 0, none⟩), .pointer (some ⟨aB, 0, none⟩)] W fun e w' => e = .returned (.tuple #[.slice (cutA A c pl) size (c - pl), .bool true]) ∧ W.setCell ⟨aB, 0, none⟩ (.int .i64 ((pl : Int) + (size : Int))) = w' := by
  have hcut := run_cut A n c pl size (pl : Int) ((pl : Int) + (size : Int)) rfl (by omega) h hc
  have hx : (W.setCell ⟨aB, 0, none⟩ (.int .i64 ((pl : Int) + (size : Int)))).cell? ⟨bB, 0, none⟩ = some (.slice A n c) := by
    rw [cell_far (by simpa using hne)]; exact hb
  go_enter Try.func25, Try.ntmps25
  go_wp2
  go_ret2
  exact ⟨rfl, rfl⟩
/-- Every element is a byte. -/
def Bytes (zs : List Int) : Prop := ∀ x, x ∈ zs → 0 ≤ x ∧ x < 256
/-- The number of bytes, the lowest first. -/
def val : List Int → Int
  | [] => 0
  | x :: r => x + 256 * val r
theorem i64_join (x y : Int) (hx : 0 ≤ x) (hm : x % 256 = 0) (hx1 : x < 9223372036854775808) (hy : 0 ≤ y) (hy1 : y < 256) : bits .or .i64 x y = x + y :=
  bits_join .i64 63 (by decide) (fun n h0 h1 => by rw [IntKind.wrap_i64]; omega) 8 x y hx (by simpa using hm) (by simpa using hx1) hy (by simpa using hy1) (by simp; omega)
theorem stepI_val (n x : Int) (h0 : 0 ≤ n) (h1 : n < 281474976710656) (h2 : 0 ≤ x) (h3 : x < 256) : stepI n x = x + 256 * n := by
  unfold stepI wrap64
  rw [show (n * 256 + 9223372036854775808) % 18446744073709551616 - 9223372036854775808 = n * 256 by omega, show (x + 9223372036854775808) % 18446744073709551616 - 9223372036854775808 = x by omega]
  rw [i64_join (n * 256) x (by omega) (by omega) (by omega) h2 h3]
  omega
theorem val_bound : ∀ (zs : List Int), Bytes zs → 0 ≤ val zs ∧ val zs < ((256 ^ zs.length : Nat) : Int)
  | [], _ => by simp [val]
  | x :: r, h => by
    have hr := val_bound r (fun y hy => h y (List.mem_cons_of_mem _ hy))
    have hx := h x List.mem_cons_self
    rw [val, List.length_cons, Nat.pow_succ]
    omega
theorem accI_foldr (zs : List Int) : accI zs zs.length = zs.foldr (fun x n => stepI n x) 0 := by
  unfold accI
  rw [List.take_of_length_le (by simp), List.foldl_reverse]
theorem foldr_val : ∀ (zs : List Int), Bytes zs → zs.length ≤ 7 → zs.foldr (fun x n => stepI n x) 0 = val zs
  | [], _, _ => rfl
  | x :: r, h, hl => by
    have hr' : Bytes r := fun y hy => h y (List.mem_cons_of_mem _ hy)
    have hx := h x List.mem_cons_self
    have hb := val_bound r hr'
    have hlr : r.length ≤ 6 := by simpa using hl
    have hpow : 256 ^ r.length ≤ 256 ^ 6 := Nat.pow_le_pow_right (by decide) hlr
    have h6 : 256 ^ 6 = 281474976710656 := by decide
    rw [List.foldr_cons, foldr_val r hr' (by omega), stepI_val _ _ hb.1 (by omega) hx.1 hx.2]
    rfl
theorem accI_val (zs : List Int) (h : Bytes zs) (hl : zs.length ≤ 7) : accI zs zs.length = val zs := by rw [accI_foldr, foldr_val zs h hl]
theorem Bytes.sub {zs ys : List Int} (h : Bytes zs) (hs : ∀ x, x ∈ ys → x ∈ zs) : Bytes ys := fun x hx => h x (hs x hx)
theorem Bytes.mid {zs : List Int} (h : Bytes zs) (lo hi : Nat) : Bytes ((zs.take hi).drop lo) := h.sub (fun _ hx => List.mem_of_mem_take (List.mem_of_mem_drop hx))
end Go.Proofs.Yteflphhdafhapaa.Rng
