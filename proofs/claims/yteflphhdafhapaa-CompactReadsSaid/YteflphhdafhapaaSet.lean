/- compact.settings: the row of values that its iterator gives. -/
import Derived.Test.YteflphhdafhapaaCut
import Derived.Deep.RegionHeld3
import Derived.Outline
namespace Go.Proofs.Yteflphhdafhapaa.Rng
open Go.RowKit Go.Shelf Go.Proofs.YteflphhdafhapaaW.PrintWords Go.Proofs.YteflphhdafhapaaW.PrintMore
attribute [local go_sem] Oper.semAt_some

/-- The seven bytes at place p. -/
def hd7 (zs : List Int) (p : Nat) : List Int := (zs.take (p + 7)).drop p
/-- How many bytes the setting at p has. -/
def szAt (zs : List Int) (p : Nat) : Nat := (val ((hd7 zs p).drop 3)).toNat
/-- The m bytes at place p. -/
def dataOf (zs : List Int) (p m : Nat) : List Int := (zs.take (p + m)).drop p
def sgAt (zs : List Int) (p : Nat) : Sg := ((IntKind.u16.wrap (val ((hd7 zs p).take 2)), (hd7 zs p)[2]?.getD 0), dataOf zs (p + 7) (szAt zs p))
/-- Is there a setting at p? -/
def okAt (zs : List Int) (p : Nat) : Bool := decide (p + 7 ≤ zs.length) && (decide (szAt zs p ≤ 4096) && decide (p + 7 + szAt zs p ≤ zs.length))
/-- Where setting k begins. -/
def posK (zs : List Int) : Nat → Nat
  | 0 => 4
  | k + 1 => posK zs k + 7 + szAt zs (posK zs k)

theorem value_val (A : Option Addr) (c : Nat) (zs : List Int) (w : World) (hz : kB.C w A zs.length zs) (hb : Bytes zs) (hl : zs.length ≤ 7) :
    Calls Try.prog 21 #[.slice A zs.length c] w fun e w' => e = .returned (.int .i64 (val zs)) ∧ Below w.heap.size w w' := by
  rw [← accI_val zs hb hl]
  exact value_any A c zs w (C_Rd hz) (C_Rd hz).off
theorem value_len (A : Option Addr) (n c : Nat) (zs : List Int) (w : World) (hz : kB.C w A zs.length zs) (hb : Bytes zs) (hl : zs.length ≤ 7) (hn : zs.length = n) :
    Calls Try.prog 21 #[.slice A n c] w fun e w' => e = .returned (.int .i64 (val zs)) ∧ Below w.heap.size w w' := by
  subst hn
  exact value_val A c zs w hz hb hl

/-- What yield is handed in round k: the setting, or nothing. -/
def setV (zs : List Int) (K base : Nat) (k : Nat) (args : Array Value) (W : World) : Prop :=
  (k < K ∧ ∃ g v, args = #[.int .i64 (posK zs (k + 1) : Int), .pointer (some ⟨g, 0, none⟩)] ∧ base ≤ g ∧
    W.heap[g]? = some (.cells #[.int .u16 (sgAt zs (posK zs k)).1.1, .int .u8 (sgAt zs (posK zs k)).1.2, v] 45 (0, 0)) ∧ Kd.R kB 5 W base (fun _ => True) v (sgAt zs (posK zs k)).2) ∨
  (k = K ∧ args = #[.int .i64 (posK zs K : Int), .pointer none])

theorem okAt_spec {zs : List Int} {p : Nat} (h : okAt zs p = true) : p + 7 ≤ zs.length ∧ szAt zs p ≤ 4096 ∧ p + 7 + szAt zs p ≤ zs.length := by
  simpa [okAt] using h
theorem posK_le {zs : List Int} {K : Nat} (hok : ∀ k, k < K → okAt zs (posK zs k) = true) (h4 : 4 ≤ zs.length) : ∀ k, k ≤ K → posK zs k ≤ zs.length
  | 0, _ => h4
  | k + 1, h => (okAt_spec (hok k (by omega))).2.2
theorem hd7_length {zs : List Int} {p : Nat} (h : p + 7 ≤ zs.length) : (hd7 zs p).length = 7 := by simp [hd7]; omega
theorem hd7_bytes {zs : List Int} (h : Bytes zs) (p : Nat) : Bytes (hd7 zs p) := h.mid p (p + 7)
theorem Bytes.drop_ {zs : List Int} (h : Bytes zs) (n : Nat) : Bytes (zs.drop n) := h.sub (fun _ hx => List.mem_of_mem_drop hx)
theorem Bytes.take_ {zs : List Int} (h : Bytes zs) (n : Nat) : Bytes (zs.take n) := h.sub (fun _ hx => List.mem_of_mem_take hx)
theorem szAt_val {zs : List Int} (h : Bytes zs) (p : Nat) : val ((hd7 zs p).drop 3) = (szAt zs p : Int) := by
  have := (val_bound _ ((hd7_bytes h p).drop_ 3)).1
  unfold szAt
  omega

theorem Fr.C {M : Nat → Prop} {w W : World} {A : Option Addr} {n : Nat} {zs : List Int} (hn : zs.length = n) (h : kB.C w A n zs) (hf : Fr M w W) (hM : Off M A n) : kB.C W A n zs := by
  subst hn
  exact Rd_C ((C_Rd h).fr hf hM)
theorem hd7_C {w : World} {A : Option Addr} {c p n : Nat} {zs : List Int} (hn : zs.length = n) (h : kB.C w A n zs) (hc : n ≤ c) (hp : p + 7 ≤ n) : kB.C w (cutA A c p) 7 (hd7 zs p) := by
  subst hn
  have h := cutA_C h (by omega : p ≤ p + 7) hp hc
  rwa [show ((zs.take (p + 7)).drop p).length = 7 from hd7_length hp] at h
theorem hd3_C {w : World} {A : Option Addr} {c p n : Nat} {zs : List Int} (hn : zs.length = n) (h : kB.C w A n zs) (hc : n ≤ c) (hp : p + 7 ≤ n) : kB.C w (cutA (cutA A c p) (c - p) 3) ((hd7 zs p).drop 3).length ((hd7 zs p).drop 3) := by
  have hl : (hd7 zs p).length = 7 := hd7_length (by omega)
  have h1 : kB.C w (cutA A c p) (hd7 zs p).length (hd7 zs p) := by rw [hl]; exact hd7_C hn h hc hp
  have h := cutA_C h1 (by omega : 3 ≤ 7) (by omega) (by omega : (hd7 zs p).length ≤ c - p)
  rwa [List.take_of_length_le (by omega)] at h
theorem hd2_C {w : World} {A : Option Addr} {c p n : Nat} {zs : List Int} (hn : zs.length = n) (h : kB.C w A n zs) (hc : n ≤ c) (hp : p + 7 ≤ n) : kB.C w (cutA A c p) ((hd7 zs p).take 2).length ((hd7 zs p).take 2) := by
  have hl : (hd7 zs p).length = 7 := hd7_length (by omega)
  have h1 : kB.C w (cutA A c p) (hd7 zs p).length (hd7 zs p) := by rw [hl]; exact hd7_C hn h hc hp
  refine Rd_C ⟨by simp; omega, fun _ => ?_⟩
  obtain ⟨ad, e, hc2⟩ := (C_Rd h1).2 (by omega)
  refine ⟨ad, e, fun j hj => ?_⟩
  rw [List.length_take] at hj
  rw [hc2 j (by omega), List.getElem?_take]
  simp [show j < 2 by omega]
/-- The seven bytes' size, read. -/
theorem size_val {w : World} {A : Option Addr} {c p n : Nat} {zs : List Int} (hn : zs.length = n) (h : kB.C w A n zs) (hB : Bytes zs) (hc : n ≤ c) (hp : p + 7 ≤ n) (sz : Nat) (hs : szAt zs p = sz) :
    Calls Try.prog 21 #[.slice (cutA (cutA A c p) (c - p) 3) 4 (c - p - 3)] w fun e w' => e = .returned (.int .i64 (sz : Int)) ∧ Below w.heap.size w w' := by
  have hl : (hd7 zs p).length = 7 := hd7_length (by omega)
  rw [← hs, ← szAt_val hB]
  exact value_len _ 4 _ _ w (hd3_C hn h hc hp) ((hd7_bytes hB p).drop_ 3) (by simp [hl]) (by simp [hl])
theorem sz_bound {zs : List Int} (hB : Bytes zs) (p : Nat) (h : p + 7 ≤ zs.length) : szAt zs p < 4294967296 := by
  have hl : (hd7 zs p).length = 7 := hd7_length h
  have h := (val_bound _ ((hd7_bytes hB p).drop_ 3)).2
  rw [szAt_val hB, List.length_drop, hl, show (256 ^ (7 - 3) : Nat) = 4294967296 by decide] at h
  omega

theorem head_val {W4 w : World} {A : Option Addr} {c p n : Nat} {zs : List Int} {ad : Addr} (hn : zs.length = n) (h : kB.C W4 A n zs) (hB : Bytes zs) (hc : n ≤ c) (hp : p + 7 ≤ n) (e : cutA A c p = some ad) (hb : Below W4.heap.size W4 w) :
    Calls Try.prog 21 #[.slice (some ad) 2 (c - p)] w fun e w' => e = .returned (.int .i64 (val ((hd7 zs p).take 2))) ∧ Below w.heap.size w w' := by
  have hl : (hd7 zs p).length = 7 := hd7_length (by omega)
  have h2 := hd2_C hn h hc hp
  rw [e] at h2
  exact value_len _ 2 _ _ w (Rd_C ((C_Rd h2).fr (Fr.of_below (M := fun _ => False) hb) (fun _ _ _ => id))) ((hd7_bytes hB p).take_ 2) (by simp [hl]) (by simp [hl])
theorem data_C {W4 w : World} {A : Option Addr} {c p n m : Nat} {zs : List Int} (hn : zs.length = n) (h : kB.C W4 A n zs) (hc : n ≤ c) (hp : p + m ≤ n) (hb : Below W4.heap.size W4 w) (hm : ((zs.take (p + m)).drop p).length = m) : kB.C w (cutA A c p) m ((zs.take (p + m)).drop p) := by
  subst hn
  have h2 := cutA_C h (by omega : p ≤ p + m) hp hc
  rw [hm] at h2
  exact Fr.C hm h2 (Fr.of_below (M := fun _ => False) hb) (fun _ _ _ => id)
theorem data_clone {W4 w : World} {A : Option Addr} {c p n m : Nat} {zs : List Int} (hn : zs.length = n) (h : kB.C W4 A n zs) (hc : n ≤ c) (hp : p + m ≤ n) (hs : m ≤ 4096) (hb : Below W4.heap.size W4 w) :
    Calls Try.prog 26 #[.slice (cutA A c p) m (c - p)] w fun e w' => ∃ v0_ : Value, e = .returned v0_ ∧ Kd.R kB 5 w' w.heap.size (fun _ => True) v0_ (dataOf zs p m) ∧ Below w.heap.size w w' := by
  have hm : ((zs.take (p + m)).drop p).length = m := by simp; omega
  have h2 := clone_any (cutA A c p) (c - p) ((zs.take (p + m)).drop p) w (by rw [hm]; exact data_C hn h hc hp hb hm) (by omega)
  rwa [hm] at h2

set_option maxRecDepth 100000 in
set_option maxHeartbeats 4000000 in
theorem set_seq (bB nB n c K : Nat) (bad : Bool) (A : Option Addr) (zs : List Int) (M : Nat → Prop) (W : World) (hb : W.cell? ⟨bB, 0, none⟩ = some (.slice A zs.length c)) (hn : W.cell? ⟨nB, 0, none⟩ = some (.int .i64 (n : Int)))
    (hz : kB.C W A zs.length zs) (hc : zs.length ≤ c) (hB : Bytes zs) (hl : zs.length ≤ 1000000) (h4 : 4 ≤ zs.length) (hM1 : ¬ M bB) (hM2 : ¬ M W.heap.size) (hM3 : Off M A zs.length)
    (hok : ∀ k, k < K → okAt zs (posK zs k) = true) (hK : (K = n ∧ bad = decide (posK zs K < zs.length)) ∨ (K < n ∧ okAt zs (posK zs K) = false ∧ bad = true)) (hn0 : n < 4294967296) :
    SeqL Try.prog 24 #[.pointer (some ⟨bB, 0, none⟩), .pointer (some ⟨nB, 0, none⟩)] (K + if bad then 1 else 0) (setV zs K (W.heap.size + 1)) M (fun j => j = W.heap.size) W := by
  intro l J Jx hJ hJx hY h0
  have HY := Aside0.mk hY
  have HJ := Aside0.mk hJ
  have HJX := Aside0.mk hJx
  have HZ := Aside0.mk hz
  have HBY := Aside0.mk hB
  have HOK := Aside0.mk hok
  have HK := Aside0.mk hK
  have HM2 := Aside0.mk hM2
  have HM3 := Aside0.mk hM3
  obtain ⟨len, hlen⟩ : ∃ len, zs.length = len := ⟨_, rfl⟩
  have HLEN := Aside0.mk hlen
  rw [hlen] at hb hc hl
  have HZL : Aside0 (kB.C W A len zs) := ⟨by rw [← hlen]; exact hz⟩
  have hbB := World.block_lt_of_cell? _ _ hb
  have hnB := World.block_lt_of_cell? _ _ hn
  clear hY hJ hJx hz hB hok hK hM2 hM3 hlen
  refine callsIn_of_wp Try.func24 rfl trivial ?_ rfl
  simp only [Try.ntmps24, List.size_toArray, List.length_cons, List.length_nil, Nat.reduceAdd, Nat.reduceSub, Array.replicate_succ, Array.replicate_zero, List.push_toArray, List.append_toArray, List.nil_append, List.cons_append]
  gi_wp2
  obtain ⟨aB, haB⟩ : ∃ aB, W.heap.size = aB := ⟨_, rfl⟩
  have hw0 := World.alloc_heap_new W (.cells #[.int .i64 4] 3)
  obtain ⟨W1, hW1⟩ : ∃ W1, W.alloc (.cells #[.int .i64 4] 3) = W1 := ⟨_, rfl⟩
  have hF1 : Fr (fun j => M j ∨ j = aB) W W1 := by rw [← hW1]; exact Fr.alloc _ _ _
  have hJ1 : J 0 W1 := HJ.out 0 W W1 h0 (by rw [← hW1]; exact Fr.alloc _ _ _)
  rw [hW1] at hw0 ⊢
  have HAB0 := Aside0.mk haB
  rw [haB] at hw0 hbB hnB HJ HJX HM2 HY ⊢
  have HF1 := Aside0.mk hF1
  have HJ1 := Aside0.mk hJ1
  have HAB := Aside0.mk haB
  have HW0 := Aside0.mk hw0
  have HOFF : Aside0 (Off (fun j => M j ∨ j = aB) A len) := ⟨fun ad e h => by
    rintro (hm | hm)
    · exact HM3.out ad e (by rw [HLEN.out]; exact h) hm
    · have := (C_Rd HZ.out).off ad e (by rw [HLEN.out]; exact h); have := HAB0.out; omega⟩
  have HOFF2 : Aside0 (Off (fun j => j = aB) A len) := ⟨fun ad e h hm => HOFF.out ad e h (.inr hm)⟩
  have hnM : ¬ M aB := HM2.out
  have H4 := Aside0.mk h4
  clear hF1 hJ1 haB h0 hW1 hw0 h4
  gi_loopw [13] (fun i wr => ∃ k : Nat, k ≤ K ∧ i = .int .i64 k ∧ Aside0 (wr.heap[aB]? = some (.cells #[.int .i64 (posK zs k : Int)] 3 (0, 0))) ∧ Aside0 (Fr (fun j => M j ∨ j = aB) W wr) ∧ Aside0 (J k wr))
    (fun i _ => n - (intOf i).toNat)
  case atStart => exact ⟨0, Nat.zero_le _, rfl, HW0, HF1, HJ1⟩
  case round =>
    clear HW0 HF1 HJ1
    obtain ⟨k, hk, rfl, HA, HF, HJW⟩ := hrel
    have hb' := HF.out.cell hb (by rintro (h | h); exact hM1 h; simp at h; omega)
    have ha' := blk_cell HA.out
    have hf' := blk_free HA.out
    have hple : posK zs k ≤ len := by rw [← HLEN.out]; exact posK_le HOK.out H4.out k hk
    obtain ⟨p, hp⟩ : ∃ p, posK zs k = p := ⟨_, rfl⟩
    rw [hp] at ha' hple
    have HP := Aside0.mk hp
    clear hp
    by_cases hkK : k < K
    · have hspec := okAt_spec (HOK.out k hkK)
      rw [HP.out, HLEN.out] at hspec
      obtain ⟨h1, hs4, hs5⟩ := hspec
      have hkn : k < n := by rcases HK.out with ⟨rfl, _⟩ | ⟨h, _⟩ <;> omega
      obtain ⟨W1, hW1⟩ : ∃ W1, wr.setCell ⟨aB, 0, none⟩ (.int .i64 ((p : Int) + (7 : Nat))) = W1 := ⟨_, rfl⟩
      have hF1 : Fr (fun j => j = aB) wr W1 := by rw [← hW1]; exact Fr.setCell _ _ _ (.inl rfl)
      have hb1 := hF1.cell hb' (by simp; omega)
      have hA1 : W1.heap[aB]? = some (.cells #[.int .i64 ((p + 7 : Nat) : Int)] 3 (0, 0)) := by rw [← hW1]; have h := blk_put HA.out (.int .i64 ((p : Int) + (7 : Nat))); rwa [show ((p : Int) + (7 : Nat)) = ((p + 7 : Nat) : Int) by omega] at h
      have hJ1 := HJ.out _ _ _ HJW.out hF1
      have hC1 : kB.C W1 A len zs := Fr.C HLEN.out (Fr.C HLEN.out HZL.out HF.out HOFF.out) hF1 (fun ad e h => HOFF2.out ad e h)
      obtain ⟨sz, hsz⟩ : ∃ sz, szAt zs p = sz := ⟨_, rfl⟩
      have hszb : sz < 4294967296 := by rw [← hsz]; exact sz_bound HBY.out p (by rw [HLEN.out]; exact h1)
      have hrun : ∀ X : World, (Instr.slice 25 (.slice (cutA A c p) 7 (c - p)) (some (.int .i64 3)) none none).run Try.prog X = .ok (.slice (cutA (cutA A c p) (c - p) 3) 4 (c - p - 3)) X := fun X => run_cut_lo (cutA A c p) 7 (c - p) 3 (by omega) X
      have HJ1 := Aside0.mk hJ1
      have HA1 := Aside0.mk hA1
      have HC1 := Aside0.mk hC1
      rw [hsz] at hs4 hs5
      have HSZ := Aside0.mk hsz
      have HW1 := Aside0.mk hW1
      have HF1 := Aside0.mk hF1
      clear hJ1 hA1 hC1 hsz hW1 hF1
      gi_wp2_with (refine ⟨trivial, ?_⟩; gi_at_call 25; refine (callsIn_wide.2 (cut_yes 7 A len c bB aB p wr hb' ha' hf' (by omega) (by omega) (by omega) h1)).mono ?_; rintro e w' ⟨rfl, rfl⟩; rw [HW1.out])
      gi_wp2_with (refine ⟨trivial, ?_⟩; gi_at_call 21; refine (callsIn_wide.2 (size_val HLEN.out HC1.out HBY.out hc h1 sz HSZ.out)).mono ?_; rintro e w2 ⟨rfl, hB2⟩; have HB2 := Aside0.mk hB2; clear hB2)
      have hF2 : Fr (fun _ => False) W1 w2 := Fr.of_below HB2.out
      have hC2 := Fr.C HLEN.out HC1.out hF2 (fun _ _ _ => id)
      have hJ2 := HJ.out _ _ _ HJ1.out (hF2.mono (fun _ => False.elim))
      have hA2 := hF2.blk HA1.out id
      have hb2 := hF2.cell hb1 id
      have HC2 := Aside0.mk hC2
      have HJ2 := Aside0.mk hJ2
      have HA2 := Aside0.mk hA2
      have HF2 := Aside0.mk hF2
      clear hC2 hJ2 hA2 hF2 hb1
      gi_wp2_with (refine ⟨trivial, ?_⟩; gi_at_call 21; refine (callsIn_wide.2 (size_val HLEN.out HC2.out HBY.out hc h1 sz HSZ.out)).mono ?_; rintro e w3 ⟨rfl, hB3⟩; have HB3 := Aside0.mk hB3; clear hB3)
      have hF3 : Fr (fun _ => False) w2 w3 := Fr.of_below HB3.out
      have hC3 := Fr.C HLEN.out HC2.out hF3 (fun _ _ _ => id)
      have hJ3 := HJ.out _ _ _ HJ2.out (hF3.mono (fun _ => False.elim))
      have hA3 := hF3.blk HA2.out id
      have hb3 := hF3.cell hb2 id
      have ha3 := blk_cell hA3
      have hf3 := blk_free hA3
      have HC3 := Aside0.mk hC3
      have HJ3 := Aside0.mk hJ3
      have HA3 := Aside0.mk hA3
      have HF3 := Aside0.mk hF3
      clear hC3 hJ3 hA3 hF3 hb2
      have hF3 := HF3.out
      obtain ⟨W4, hW4⟩ : ∃ W4, w3.setCell ⟨aB, 0, none⟩ (.int .i64 (((p + 7 : Nat) : Int) + (sz : Int))) = W4 := ⟨_, rfl⟩
      have hF4 : Fr (fun j => j = aB) w3 W4 := by rw [← hW4]; exact Fr.setCell _ _ _ (.inl rfl)
      have hb4 := hF4.cell hb3 (by simp; omega)
      have hA4 : W4.heap[aB]? = some (.cells #[.int .i64 ((p + 7 + sz : Nat) : Int)] 3 (0, 0)) := by rw [← hW4]; have h := blk_put HA3.out (.int .i64 (((p + 7 : Nat) : Int) + (sz : Int))); rwa [show ((p + 7 : Nat) : Int) + (sz : Int) = ((p + 7 + sz : Nat) : Int) by omega] at h
      have hJ4 := HJ.out _ _ _ HJ3.out hF4
      have hC4 : kB.C W4 A len zs := Fr.C HLEN.out HC3.out hF4 (fun ad e h => HOFF2.out ad e h)
      have HJ4 := Aside0.mk hJ4
      have HA4 := Aside0.mk hA4
      have HC4 := Aside0.mk hC4
      have HW4 := Aside0.mk hW4
      have HF4 := Aside0.mk hF4
      clear hJ4 hA4 hC4 hW4 hF4 hF3
      gi_wp2_with (refine ⟨trivial, ?_⟩; gi_at_call 25; refine (callsIn_wide.2 (cut_yes sz A len c bB aB (p + 7) w3 hb3 ha3 hf3 (by omega) (by omega) (by omega) (by omega))).mono ?_; rintro e w' ⟨rfl, rfl⟩; rw [HW4.out])
      have hl7 : (hd7 zs p).length = 7 := hd7_length (by rw [HLEN.out]; exact h1)
      have hC7 : kB.C W4 (cutA A c p) (hd7 zs p).length (hd7 zs p) := by rw [hl7]; exact hd7_C HLEN.out HC4.out hc h1
      obtain ⟨ad, had, hx2⟩ := (C_Rd hC7).at_ 2 (by omega)
      clear hC7 hl7
      rw [show ad.add 2 = ⟨ad.block, ad.off + 2, none⟩ from rfl] at hx2
      obtain ⟨x2, hx⟩ : ∃ x2, (hd7 zs p)[2]?.getD 0 = x2 := ⟨_, rfl⟩
      rw [hx] at hx2
      rw [had]
      refine wpIn_wide.2 ?_
      have hcut2 : ∀ X : World, (Instr.slice 25 (.slice (some ad) 7 (c - p)) none (some (.int .i64 2)) none).run Try.prog X = .ok (.slice (some ad) 2 (c - p)) X := fun X => run_cut_hi (some ad) 7 (c - p) 2 (by omega) (by omega) X
      have HAD := Aside0.mk had
      have HX := Aside0.mk hx
      clear had hx
      go_region_held3 (fun X => X.cell? ⟨ad.block, ad.off + 2, none⟩ = some (.int .u8 x2)) (first | assumption | go_keep)
        (first
          | (go_at_call 21
             go_must (refine (head_val (W4 := W4) HLEN.out HC4.out HBY.out hc h1 HAD.out ?_).mono ?_)
             · repeat (first | exact Below.refl _ _ | refine below_drew ?_ | refine below_alloc ?_ _)
             rintro e w5 ⟨rfl, hb5⟩
             have hk5 := pw_cell_below hb5 (by assumption)
             have HB5 := Aside0.mk hb5
             clear hb5)
          | (go_at_call 26
             go_must (refine (data_clone (W4 := W4) HLEN.out HC4.out hc hs5 hs4 ?_).mono ?_)
             · repeat (first | exact Below.refl _ _ | refine below_step ?_ HB5.out | refine below_drew ?_ | refine below_alloc ?_ _)
             rintro e w6 ⟨v6, rfl, hown6, hb6⟩
             have hk6 := pw_cell_below hb6 (by assumption)
             obtain ⟨D6, d6, rfl, _, _⟩ := Kd.R_reads hown6
             have HO6 := Aside0.mk hown6
             have HB6 := Aside0.mk hb6
             clear hown6 hb6))
      have hF7 : Fr (fun _ => False) W4 (w6.alloc (Obj.cells #[Value.int IntKind.u16 (IntKind.u16.wrap (val (List.take 2 (hd7 zs p)))), Value.int IntKind.u8 x2, Value.slice D6 (dataOf zs (p + 7) sz).length d6] 45)) :=
        (((Fr.drew _ W4).trans (Fr.of_below HB5.out)).trans (Fr.of_below HB6.out)).trans (Fr.alloc _ _ _)
      have hg7 := World.alloc_heap_new w6 (Obj.cells #[Value.int IntKind.u16 (IntKind.u16.wrap (val (List.take 2 (hd7 zs p)))), Value.int IntKind.u8 x2, Value.slice D6 (dataOf zs (p + 7) sz).length d6] 45)
      have hO7 := Kd.R_below HO6.out ((Below.refl _ w6).alloc (Nat.le_refl _) (Obj.cells #[Value.int IntKind.u16 (IntKind.u16.wrap (val (List.take 2 (hd7 zs p)))), Value.int IntKind.u8 x2, Value.slice D6 (dataOf zs (p + 7) sz).length d6] 45))
      have hs56 := HB5.out.size
      have hs46 : aB < w5.heap.size := by
        have h1 : aB < W4.heap.size := by
          rcases Nat.lt_or_ge aB W4.heap.size with h | h
          · exact h
          · have := HA4.out; rw [Array.getElem?_eq_none h] at this; cases this
        exact Nat.lt_of_lt_of_le h1 hs56
      have hs6 : aB + 1 ≤ w6.heap.size := Nat.le_trans hs46 HB6.out.size
      have hO7 := Kd.R_lower hO7 hs46
      obtain ⟨W7, hW7⟩ : ∃ W7, (w6.alloc (Obj.cells #[Value.int IntKind.u16 (IntKind.u16.wrap (val (List.take 2 (hd7 zs p)))), Value.int IntKind.u8 x2, Value.slice D6 (dataOf zs (p + 7) sz).length d6] 45)) = W7 := ⟨_, rfl⟩
      obtain ⟨g, hg⟩ : ∃ g, w6.heap.size = g := ⟨_, rfl⟩
      rw [hW7] at hF7 hg7 hO7 ⊢
      rw [hg] at hg7 hs6 ⊢
      have hJ7 := HJ.out _ _ _ HJ4.out (hF7.mono (fun _ => False.elim))
      have hA7 := hF7.blk HA4.out id
      have hb7 := hF7.cell hb4 id
      obtain ⟨q, hq⟩ : ∃ q, p + 7 + sz = q := ⟨_, rfl⟩
      rw [hq] at hA7
      have ha7 := blk_cell hA7
      have hpk : posK zs (k + 1) = q := by rw [posK, HP.out, HSZ.out]; exact hq
      obtain ⟨fn, tmps, assign, body, hy, hR⟩ := HY.out k #[.int .i64 (q : Int), .pointer (some ⟨g, 0, none⟩)] W7 (by omega)
        (.inl ⟨hkK, g, _, by rw [hpk], hs6, by rw [HP.out]; unfold sgAt; rw [HX.out]; exact hg7, by rw [HP.out]; unfold sgAt; rw [HSZ.out]; exact hO7⟩) hJ7
      have HFF : Aside0 (Fr (fun j => M j ∨ j = aB) W W7) := ⟨HF.out.trans ((HF1.out.mono (fun _ h => .inr h)).trans ((HF2.out.mono (fun _ => False.elim)).trans ((HF3.out.mono (fun _ => False.elim)).trans ((HF4.out.mono (fun _ h => .inr h)).trans (hF7.mono (fun _ => False.elim))))))⟩
      have HA7 := Aside0.mk hA7
      have HPK := Aside0.mk hpk
      clear hF7 hg7 hO7 hs56 hs46 hs6 hW7 hg hJ7 hA7 hb7 hq hpk HB5 HB6 HO6 hk5 hk6 hx2
      gi_wp2
      refine (RoundIn.wide_any hR).mono ?_
      rintro e W8 (⟨rfl, hJ8, hk8⟩ | ⟨rfl, hJx8, hk8⟩)
      · have HJ8 := Aside0.mk hJ8
        have HK8 := Aside0.mk hk8
        clear hJ8 hk8
        gi_wp2
        refine ⟨⟨k + 1, by omega, by go_num, ⟨by rw [HPK.out]; exact HK8.out.blk HA7.out hnM⟩, ⟨HFF.out.trans (HK8.out.mono (fun _ h => .inl h))⟩, HJ8⟩, by simp [intOf]; omega⟩
      · gi_wp2
        all_goals
          refine bodyPost_ret (results_none rfl _ _ _) rfl ?_
          exact ⟨⟨_, rfl⟩, .inr ⟨k, by omega, hJx8⟩⟩
    · obtain rfl : k = K := by omega
      rcases HK.out with ⟨rfl, hbad⟩ | ⟨hkn, hnot, hbad⟩
      · -- all settings have come
        rw [HP.out, HLEN.out] at hbad
        by_cases hpl : p < len
        · rw [decide_eq_true hpl] at hbad
          subst hbad
          obtain ⟨fn, tmps, assign, body, hy, hR⟩ := HY.out k #[.int .i64 p, .pointer none] wr (by simp) (.inr ⟨rfl, by rw [HP.out]⟩) HJW.out
          clear HK
          gi_wp2
          refine (RoundIn.wide_any hR).mono ?_
          rintro e W3 (⟨rfl, hJ3, hk3⟩ | ⟨rfl, hJx3, hk3⟩)
          · gi_wp2
            go_end0
            exact ⟨⟨_, rfl⟩, .inl hJ3⟩
          · gi_wp2
            go_end0
            exact ⟨⟨_, rfl⟩, .inr ⟨k, by simp, hJx3⟩⟩
        · rw [decide_eq_false hpl] at hbad
          subst hbad
          clear HK HY
          gi_wp2
          go_end0
          exact ⟨⟨_, rfl⟩, .inl HJW.out⟩
      · subst hbad
        rw [HP.out] at hnot
        have HNOT := Aside0.mk hnot
        clear hnot
        by_cases h1 : p + 7 ≤ len
        · skip
          obtain ⟨W1, hW1⟩ : ∃ W1, wr.setCell ⟨aB, 0, none⟩ (.int .i64 ((p : Int) + (7 : Nat))) = W1 := ⟨_, rfl⟩
          have hF1 : Fr (fun j => j = aB) wr W1 := by rw [← hW1]; exact Fr.setCell _ _ _ (.inl rfl)
          have hb1 := hF1.cell hb' (by simp; omega)
          have hA1 : W1.heap[aB]? = some (.cells #[.int .i64 ((p + 7 : Nat) : Int)] 3 (0, 0)) := by rw [← hW1]; have h := blk_put HA.out (.int .i64 ((p : Int) + (7 : Nat))); rwa [show ((p : Int) + (7 : Nat)) = ((p + 7 : Nat) : Int) by omega] at h
          have hJ1 := HJ.out _ _ _ HJW.out hF1
          have hC1 : kB.C W1 A len zs := Fr.C HLEN.out (Fr.C HLEN.out HZL.out HF.out HOFF.out) hF1 (fun ad e h => HOFF2.out ad e h)
          obtain ⟨sz, hsz⟩ : ∃ sz, szAt zs p = sz := ⟨_, rfl⟩
          have hszb : sz < 4294967296 := by rw [← hsz]; exact sz_bound HBY.out p (by rw [HLEN.out]; exact h1)
          have hrun : ∀ X : World, (Instr.slice 25 (.slice (cutA A c p) 7 (c - p)) (some (.int .i64 3)) none none).run Try.prog X = .ok (.slice (cutA (cutA A c p) (c - p) 3) 4 (c - p - 3)) X := fun X => run_cut_lo (cutA A c p) 7 (c - p) 3 (by omega) X
          have HJ1 := Aside0.mk hJ1
          have HA1 := Aside0.mk hA1
          have HC1 := Aside0.mk hC1
          have HSZ := Aside0.mk hsz
          have HW1 := Aside0.mk hW1
          have HF1 := Aside0.mk hF1
          clear hJ1 hA1 hC1 hsz hW1 hF1
          gi_wp2_with (refine ⟨trivial, ?_⟩; gi_at_call 25; refine (callsIn_wide.2 (cut_yes 7 A len c bB aB p wr hb' ha' hf' (by omega) (by omega) (by omega) h1)).mono ?_; rintro e w' ⟨rfl, rfl⟩; rw [HW1.out])
          by_cases hbig : 4096 < sz
          · gi_wp2_with (refine ⟨trivial, ?_⟩; gi_at_call 21; refine (callsIn_wide.2 (size_val HLEN.out HC1.out HBY.out hc h1 sz HSZ.out)).mono ?_; rintro e w2 ⟨rfl, hB2⟩; obtain ⟨fn, tmps, assign, body, hy, hR⟩ := HY.out k #[.int .i64 p, .pointer none] w2 (by simp) (.inr ⟨rfl, by rw [HP.out]⟩) (HJ.out _ _ _ HJ1.out (Fr.of_below hB2)); clear HK)
            refine (RoundIn.wide_any hR).mono ?_
            rintro e W8 (⟨rfl, hJ3, hk3⟩ | ⟨rfl, hJx3, hk3⟩)
            all_goals
              gi_wp2
              refine bodyPost_ret (results_none rfl _ _ _) rfl ?_
            · exact ⟨⟨_, rfl⟩, .inl hJ3⟩
            · exact ⟨⟨_, rfl⟩, .inr ⟨k, by simp, hJx3⟩⟩
          · gi_wp2_with (refine ⟨trivial, ?_⟩; gi_at_call 21; refine (callsIn_wide.2 (size_val HLEN.out HC1.out HBY.out hc h1 sz HSZ.out)).mono ?_; rintro e w2 ⟨rfl, hB2⟩; have HB2 := Aside0.mk hB2; clear hB2)
            have hF2 : Fr (fun _ => False) W1 w2 := Fr.of_below HB2.out
            have hC2 := Fr.C HLEN.out HC1.out hF2 (fun _ _ _ => id)
            have hJ2 := HJ.out _ _ _ HJ1.out (hF2.mono (fun _ => False.elim))
            have hA2 := hF2.blk HA1.out id
            have hb2 := hF2.cell hb1 id
            have HC2 := Aside0.mk hC2
            have HJ2 := Aside0.mk hJ2
            have HA2 := Aside0.mk hA2
            have HF2 := Aside0.mk hF2
            clear hC2 hJ2 hA2 hF2 hb1
            gi_wp2_with (refine ⟨trivial, ?_⟩; gi_at_call 21; refine (callsIn_wide.2 (size_val HLEN.out HC2.out HBY.out hc h1 sz HSZ.out)).mono ?_; rintro e w3 ⟨rfl, hB3⟩; have HB3 := Aside0.mk hB3; clear hB3)
            have hF3 : Fr (fun _ => False) w2 w3 := Fr.of_below HB3.out
            have hC3 := Fr.C HLEN.out HC2.out hF3 (fun _ _ _ => id)
            have hJ3 := HJ.out _ _ _ HJ2.out (hF3.mono (fun _ => False.elim))
            have hA3 := hF3.blk HA2.out id
            have hb3 := hF3.cell hb2 id
            have ha3 := blk_cell hA3
            have hf3 := blk_free hA3
            have HC3 := Aside0.mk hC3
            have HJ3 := Aside0.mk hJ3
            have HA3 := Aside0.mk hA3
            have HF3 := Aside0.mk hF3
            clear hC3 hJ3 hA3 hF3 hb2
            have hlt3 : len < p + 7 + sz := by
              have h := HNOT.out
              simp only [okAt, HLEN.out, HSZ.out, Bool.and_eq_false_iff, decide_eq_false_iff_not] at h
              omega
            obtain ⟨fn, tmps, assign, body, hy, hR⟩ := HY.out k #[.int .i64 p, .pointer none] w3 (by simp) (.inr ⟨rfl, by rw [HP.out]⟩) HJ3.out
            clear HK
            gi_wp2_with (refine ⟨trivial, ?_⟩; gi_at_call 25; refine (callsIn_wide.2 (cut_no sz A len c bB aB (p + 7) w3 hb3 ha3 (by omega) h1 (by omega))).mono ?_; rintro e w' ⟨rfl, rfl⟩)
            refine (RoundIn.wide_any hR).mono ?_
            rintro e W8 (⟨rfl, hJ3, hk3⟩ | ⟨rfl, hJx3, hk3⟩)
            all_goals
              gi_wp2
              refine bodyPost_ret (results_none rfl _ _ _) rfl ?_
            · exact ⟨⟨_, rfl⟩, .inl hJ3⟩
            · exact ⟨⟨_, rfl⟩, .inr ⟨k, by simp, hJx3⟩⟩
        · obtain ⟨fn, tmps, assign, body, hy, hR⟩ := HY.out k #[.int .i64 p, .pointer none] wr (by simp) (.inr ⟨rfl, by rw [HP.out]⟩) HJW.out
          clear HK
          gi_wp2_with (refine ⟨trivial, ?_⟩; gi_at_call 25; refine (callsIn_wide.2 (cut_no 7 A len c bB aB p wr hb' ha' (by omega) hple (by omega))).mono ?_; rintro e w' ⟨rfl, rfl⟩)
          refine ⟨trivial, ?_⟩
          gi_wp2
          refine (RoundIn.wide_any hR).mono ?_
          rintro e W3 (⟨rfl, hJ3, hk3⟩ | ⟨rfl, hJx3, hk3⟩)
          all_goals
            gi_wp2
            refine bodyPost_ret (results_none rfl _ _ _) rfl ?_
          · exact ⟨⟨_, rfl⟩, .inl hJ3⟩
          · exact ⟨⟨_, rfl⟩, .inr ⟨k, by simp, hJx3⟩⟩
end Go.Proofs.Yteflphhdafhapaa.Rng
