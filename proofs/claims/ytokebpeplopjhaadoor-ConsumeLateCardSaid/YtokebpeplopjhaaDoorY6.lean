/- slices.Clone of bytes. Bits packed into bytes, plainly. Mappings, plainly. Dictionaries in a world: rows of bytes, entries, items, the table of types. Stores over a whole row of eleven cells. dict.find. dict.find, of what there is not. -/
import Derived.Test.YtokebpeplopjhaaDoorY1
import Derived.Test.YtokebpeplopjhaaDoorY5
import Derived.Laws.IdiomCopy
import Derived.StillTailTactics
import Derived.DeepKeys5
import Derived.RangeFuncRecord
import Derived.OwnWalkIn
import Derived.Deep.RegionHeld3
namespace Go.Proofs.YtokebpeplopjhaaDoor.Rng
open Go.RowKit Go.Shelf Go.Proofs.YtokebpeplopjhaaDoorW.PrintWords Go.Proofs.YtokebpeplopjhaaDoorW.PrintMore

set_option maxRecDepth 100000 in
set_option maxHeartbeats 1000000 in
theorem clone_nil (w : World) (c : Nat) :
    Calls Tryd.prog 77 #[.slice none 0 c] w fun e w' => e = .returned (.slice none 0 0) ∧ w = w' := by
  have hn := Lib.run_eql_slice_nil (P := Tryd.prog)
  go_enter Tryd.func77, Tryd.ntmps77
  go_wp2
  go_ret
  exact ⟨rfl, rfl⟩
set_option maxRecDepth 100000 in
set_option maxHeartbeats 1000000 in
theorem clone_some (ad : Addr) (c : Nat) (l : List Int) (w : World) (hr0 : Rd w (some ad) l) (hl : l.length ≤ 140737488355328) :
    Calls Tryd.prog 77 #[.slice (some ad) l.length c] w fun e w' => ∃ v0_ : Value, e = .returned v0_ ∧ Kd.R kB 5 w' w.heap.size (fun _ => True) v0_ l ∧ Below w.heap.size w w' := by
  have hn := Lib.run_eql_slice_nil (P := Tryd.prog)
  have HR := Aside0.mk (Rd_C hr0)
  clear hr0
  go_enter Tryd.func77, Tryd.ntmps77
  go_wp2_with ((with_reducible refine gate_dst (N := 7) rfl ?_); refine Kd.R_append_row (Value.int .u8) (0 : Int) (h1 := fun _ => rfl) (w0 := w) w.heap.size rfl _ _ _ 5 (.int .u8 0) 1 rfl Tryd.underlying34 info_u8 rfl (by decide) _ [] l (some ad) l.length c (fun k => w.heap.size ≤ k) rfl rfl (fun k hk => by simp at hk; omega) (own_none w _ _ (Nat.le_refl _)) (Kd.C_below HR.out (below_alloc (Below.refl _ _) _)) (below_alloc (Below.refl _ _) _) (by simp) (by simpa using hl) ?_; intro v1 w1 hown hb hg hat; have HO := Aside0.mk hown; have HB := Aside0.mk hb; clear hown hb hg hat hl)
  go_ret
  exact ⟨v1, rfl, Kd.R_mono (d := kB) (xs := l) HO.out (fun _ _ => trivial), HB.out⟩
/-- slices.Clone: the same bytes, in a row of the call's own. -/
theorem clone_any (A : Option Addr) (c : Nat) (l : List Int) (w : World) (hr : Rd w A l) (hl : l.length ≤ 140737488355328) :
    Calls Tryd.prog 77 #[.slice A l.length c] w fun e w' => ∃ v0_ : Value, e = .returned v0_ ∧ Kd.R kB 5 w' w.heap.size (fun _ => True) v0_ l ∧ Below w.heap.size w w' := by
  cases A with
  | none =>
    obtain rfl := hr.nil_
    exact (clone_nil w c).mono fun e w' ⟨he, hw⟩ => ⟨_, he, hw ▸ Kd.R_nil _ _ _ _ _, hw ▸ Below.refl _ _⟩
  | some ad => exact clone_some ad c l w hr hl
end Go.Proofs.YtokebpeplopjhaaDoor.Rng
namespace Go.Proofs.YtokebpeplopjhaaDoor.Mp

/-- Bit k of bytes. -/
def bit (v : List Int) (k : Nat) : Int := v[k / 8]?.getD 0 / 2 ^ (k % 8) % 2
def bitsL (v : List Int) (at_ n : Nat) : List Int := (List.range n).map fun k => bit v (at_ + k)
def byteP (t : List Int) (i : Nat) : Int :=
  t[8 * i]?.getD 0 + 2 * t[8 * i + 1]?.getD 0 + 4 * t[8 * i + 2]?.getD 0 + 8 * t[8 * i + 3]?.getD 0 + 16 * t[8 * i + 4]?.getD 0 + 32 * t[8 * i + 5]?.getD 0 + 64 * t[8 * i + 6]?.getD 0 + 128 * t[8 * i + 7]?.getD 0
/-- n bytes out of bits. -/
def pkL (t : List Int) (n : Nat) : List Int := (List.range n).map (byteP t)
def Bits (t : List Int) : Prop := ∀ x ∈ t, x = 0 ∨ x = 1
theorem bit_01 (v : List Int) (k : Nat) : bit v k = 0 ∨ bit v k = 1 := by unfold bit; omega
theorem bits_bitsL (v : List Int) (a n : Nat) : Bits (bitsL v a n) := by
  intro x hx
  obtain ⟨k, _, rfl⟩ := List.mem_map.1 hx
  exact bit_01 _ _
theorem bitsL_length (v : List Int) (a n : Nat) : (bitsL v a n).length = n := by simp [bitsL]
theorem pkL_length (t : List Int) (n : Nat) : (pkL t n).length = n := by simp [pkL]
theorem pkL_get (t : List Int) (n i : Nat) (h : i < n) : (pkL t n)[i]?.getD 0 = byteP t i := by simp [pkL, h]
theorem bits_get {t : List Int} (h : Bits t) (m : Nat) : t[m]?.getD 0 = 0 ∨ t[m]?.getD 0 = 1 := by
  by_cases hm : m < t.length
  · rw [List.getElem?_eq_getElem hm]
    exact h _ (List.getElem_mem hm)
  · rw [List.getElem?_eq_none (by omega)]
    exact .inl rfl
theorem bits_bnd {t : List Int} (h : Bits t) (m : Nat) : 0 ≤ t[m]?.getD 0 ∧ t[m]?.getD 0 ≤ 1 := by
  rcases bits_get h m with e | e <;> rw [e] <;> decide
theorem snoc_get (t : List Int) (x : Int) (m : Nat) : (t ++ [x])[m]?.getD 0 = t[m]?.getD 0 + if m = t.length then x else 0 := by
  rcases Nat.lt_trichotomy m t.length with h | h | h
  · rw [List.getElem?_append_left h, if_neg (by omega), Int.add_zero]
  · subst h
    simp
  · rw [List.getElem?_eq_none (by simp; omega), List.getElem?_eq_none (by omega), if_neg (by omega)]
    rfl
theorem byteP_snoc (t : List Int) (x : Int) (i : Nat) : byteP (t ++ [x]) i = byteP t i + if i = t.length / 8 then x * 2 ^ (t.length % 8) else 0 := by
  unfold byteP
  simp only [snoc_get]
  obtain ⟨q, r, hr, hp⟩ : ∃ q r, r < 8 ∧ t.length = 8 * q + r := ⟨t.length / 8, t.length % 8, Nat.mod_lt _ (by omega), by omega⟩
  rw [hp]
  have e1 : (8 * q + r) / 8 = q := by omega
  have e2 : (8 * q + r) % 8 = r := by omega
  rw [e1, e2]
  by_cases hi : i = q
  · subst hi
    match r, hr with
    | 0, _ => simp; omega
    | 1, _ => simp; omega
    | 2, _ => simp; omega
    | 3, _ => simp; omega
    | 4, _ => simp; omega
    | 5, _ => simp; omega
    | 6, _ => simp; omega
    | 7, _ => simp; omega
  · rw [if_neg hi]
    repeat rw [if_neg (by omega)]
    omega
theorem byteP_lt {t : List Int} (h : Bits t) (i : Nat) : 0 ≤ byteP t i ∧ byteP t i < 256 := by
  unfold byteP
  have := bits_bnd h (8 * i); have := bits_bnd h (8 * i + 1); have := bits_bnd h (8 * i + 2); have := bits_bnd h (8 * i + 3)
  have := bits_bnd h (8 * i + 4); have := bits_bnd h (8 * i + 5); have := bits_bnd h (8 * i + 6); have := bits_bnd h (8 * i + 7)
  omega
theorem pkL_byt {t : List Int} (h : Bits t) (n : Nat) : Byt (pkL t n) := by
  intro x hx
  obtain ⟨i, _, rfl⟩ := List.mem_map.1 hx
  exact byteP_lt h i
theorem bit_sum (a0 a1 a2 a3 a4 a5 a6 a7 : Int) (h0 : 0 ≤ a0 ∧ a0 ≤ 1) (h1 : 0 ≤ a1 ∧ a1 ≤ 1) (h2 : 0 ≤ a2 ∧ a2 ≤ 1) (h3 : 0 ≤ a3 ∧ a3 ≤ 1) (h4 : 0 ≤ a4 ∧ a4 ≤ 1) (h5 : 0 ≤ a5 ∧ a5 ≤ 1) (h6 : 0 ≤ a6 ∧ a6 ≤ 1) (h7 : 0 ≤ a7 ∧ a7 ≤ 1) (S : Int) (hS : S = a0 + 2 * a1 + 4 * a2 + 8 * a3 + 16 * a4 + 32 * a5 + 64 * a6 + 128 * a7) :
    S / 1 % 2 = a0 ∧ S / 2 % 2 = a1 ∧ S / 4 % 2 = a2 ∧ S / 8 % 2 = a3 ∧ S / 16 % 2 = a4 ∧ S / 32 % 2 = a5 ∧ S / 64 % 2 = a6 ∧ S / 128 % 2 = a7 := by
  refine ⟨?_, ?_, ?_, ?_, ?_, ?_, ?_, ?_⟩ <;> omega
theorem bit_byteP {t : List Int} (h : Bits t) (i r : Nat) (hr : r < 8) : byteP t i / 2 ^ r % 2 = t[8 * i + r]?.getD 0 := by
  obtain ⟨q0, q1, q2, q3, q4, q5, q6, q7⟩ := bit_sum _ _ _ _ _ _ _ _ (bits_bnd h (8 * i)) (bits_bnd h (8 * i + 1)) (bits_bnd h (8 * i + 2)) (bits_bnd h (8 * i + 3)) (bits_bnd h (8 * i + 4)) (bits_bnd h (8 * i + 5)) (bits_bnd h (8 * i + 6)) (bits_bnd h (8 * i + 7)) (byteP t i) rfl
  match r, hr with
  | 0, _ => exact q0
  | 1, _ => exact q1
  | 2, _ => exact q2
  | 3, _ => exact q3
  | 4, _ => exact q4
  | 5, _ => exact q5
  | 6, _ => exact q6
  | 7, _ => exact q7
theorem bit_pkL {t : List Int} (h : Bits t) {n k : Nat} (hk : k < 8 * n) : bit (pkL t n) k = t[k]?.getD 0 := by
  unfold bit
  rw [pkL_get _ _ _ (by omega), bit_byteP h _ _ (Nat.mod_lt _ (by omega))]
  congr 2
  omega
theorem pkL_set (t : List Int) (x : Int) (n : Nat) (_ : t.length / 8 < n) : (pkL t n).set (t.length / 8) (byteP t (t.length / 8) + x * 2 ^ (t.length % 8)) = pkL (t ++ [x]) n := by
  apply List.ext_getElem
  · simp [pkL]
  · intro i h1 h2
    rw [List.getElem_set]
    simp only [pkL, List.getElem_map, List.getElem_range, byteP_snoc]
    by_cases hi : t.length / 8 = i
    · subst hi
      simp
    · rw [if_neg hi, if_neg (fun e => hi e.symm), Int.add_zero]
theorem pkL_nil (n : Nat) : pkL [] n = List.replicate n 0 := by
  apply List.ext_getElem <;> simp [pkL, byteP]
theorem bitsL_succ (v : List Int) (a n : Nat) : bitsL v a (n + 1) = bitsL v a n ++ [bit v (a + n)] := by simp [bitsL, List.range_succ]
theorem bitsL_get (v : List Int) (a n k : Nat) : (bitsL v a n)[k]?.getD 0 = if k < n then bit v (a + k) else 0 := by
  by_cases h : k < n
  · simp [bitsL, h]
  · rw [List.getElem?_eq_none (by rw [bitsL_length]; omega), if_neg h]
    rfl
/-- Bytes out of all their bits. -/
theorem pkL_bits {v : List Int} (hv : Byt v) : pkL (bitsL v 0 (8 * v.length)) v.length = v := by
  apply List.ext_getElem
  · simp [pkL]
  · intro i h1 h2
    have hi : i < v.length := h2
    obtain ⟨y, hy⟩ : ∃ y, v[i] = y := ⟨_, rfl⟩
    have hb := hv v[i] (List.getElem_mem hi)
    have hq : ∀ r, r < 8 → (bitsL v 0 (8 * v.length))[8 * i + r]?.getD 0 = y / 2 ^ r % 2 := fun r hr => by
      rw [bitsL_get, if_pos (by omega)]
      unfold bit
      rw [show (0 + (8 * i + r)) / 8 = i by omega, show (0 + (8 * i + r)) % 8 = r by omega, List.getElem?_eq_getElem hi, hy]
      rfl
    simp only [pkL, List.getElem_map, List.getElem_range, byteP]
    have q0 := hq 0 (by omega)
    rw [Nat.add_zero] at q0
    rw [q0, hq 1 (by omega), hq 2 (by omega), hq 3 (by omega), hq 4 (by omega), hq 5 (by omega), hq 6 (by omega), hq 7 (by omega), hy]
    rw [hy] at hb
    omega
theorem pkL_one {x : Int} (h0 : 0 ≤ x) (h1 : x ≤ 1) : pkL (bitsL [x] 0 1) 1 = [x] := by
  have : x = 0 ∨ x = 1 := by omega
  rcases this with rfl | rfl <;> decide
end Go.Proofs.YtokebpeplopjhaaDoor.Mp
namespace Go.Proofs.YtokebpeplopjhaaDoor.Mp

/-- A Map. -/
structure Mp where
  ix : Int
  sub : Int
  bits : Int
def fitsC (t bits : Int) : Prop := 0 < siz t ∧ (bits = 8 * siz t ∨ (t = 1 ∧ bits = 1))
instance (t bits : Int) : Decidable (fitsC t bits) := by unfold fitsC; infer_instance
def gapC (m : Mp) : Prop := m.ix < 256 ∧ m.sub = 0 ∧ fitsC m.ix m.bits
instance (m : Mp) : Decidable (gapC m) := by unfold gapC; infer_instance
/-- An entry, or why there is none; of no dictionary too. -/
def findC (o : Option DD) (i s : Int) : It × Int := match o with
  | some d => d.at i s
  | .none => (zIt, 0x08000000)
/-- May it be read (written), and mapped? -/
def wantC (rt : Int) (out : Bool) : Prop := rt / 4 % 2 = 1 ∧ (if out then rt % 2 = 1 else rt / 2 % 2 = 1)
instance (rt : Int) (out : Bool) : Decidable (wantC rt out) := by unfold wantC; split <;> infer_instance
def oneC (o : Option DD) (out : Bool) (m : Mp) : Int :=
  if gapC m then (if out then 0x06040041 else 0) else if (findC o m.ix m.sub).2 ≠ 0 then (findC o m.ix m.sub).2
  else if wantC (findC o m.ix m.sub).1.rt out ∧ fitsC (findC o m.ix m.sub).1.ty m.bits then 0 else 0x06040041
def checkL (o : Option DD) (out : Bool) : List Mp → Int → Int
  | [], _ => 0
  | m :: r, left => if oneC o out m ≠ 0 then oneC o out m else if left - m.bits < 0 then 0x06040042 else checkL o out r (left - m.bits)
def checkC (o : Option DD) (l : List Mp) (out : Bool) : Int := if 64 < l.length then 0x06040042 else checkL o out l 64
def sumC (l : List Mp) : Int := (l.map Mp.bits).sum
def sizeC (l : List Mp) : Nat := ((sumC l + 7) / 8).toNat
def valC (o : Option DD) (m : Mp) : List Int := (findC o m.ix m.sub).1.val
/-- All bits of a mapping. -/
def stC (o : Option DD) (l : List Mp) : List Int := l.flatMap fun m => bitsL (valC o m) 0 m.bits.toNat
def packC (o : Option DD) (l : List Mp) : List Int := pkL (stC o l) (sizeC l)
theorem fits_pos {t bits : Int} (h : fitsC t bits) : 1 ≤ bits ∧ bits ≤ 64 := by
  have := siz_cases t
  unfold fitsC at h
  omega
theorem one_0 {o : Option DD} {out : Bool} {m : Mp} (h : oneC o out m = 0) :
    (gapC m ∧ out = false) ∨ (¬ gapC m ∧ (findC o m.ix m.sub).2 = 0 ∧ wantC (findC o m.ix m.sub).1.rt out ∧ fitsC (findC o m.ix m.sub).1.ty m.bits) := by
  unfold oneC at h
  by_cases hg : gapC m
  · rw [if_pos hg] at h
    cases out
    · exact .inl ⟨hg, rfl⟩
    · simp at h
  · rw [if_neg hg] at h
    by_cases hf : (findC o m.ix m.sub).2 = 0
    · rw [if_neg (by simp [hf])] at h
      by_cases hw : wantC (findC o m.ix m.sub).1.rt out ∧ fitsC (findC o m.ix m.sub).1.ty m.bits
      · exact .inr ⟨hg, hf, hw⟩
      · rw [if_neg hw] at h
        simp at h
    · rw [if_pos (by simpa using hf)] at h
      exact absurd h hf
theorem at_code (d : DD) (i s : Int) : (d.at i s).2 = 0 ∨ (d.at i s).2 = 0x06090011 ∨ (d.at i s).2 = 0x06020000 := by
  unfold DD.at
  split
  · exact .inl rfl
  · split
    · exact .inr (.inl rfl)
    · exact .inr (.inr rfl)
theorem one_bits {o : Option DD} {out : Bool} {m : Mp} (h : oneC o out m = 0) : 1 ≤ m.bits ∧ m.bits ≤ 64 := by
  rcases one_0 h with ⟨⟨_, _, hf⟩, _⟩ | ⟨_, _, _, hf⟩
  · exact fits_pos hf
  · exact fits_pos hf
theorem check_all {o : Option DD} {out : Bool} : ∀ {l : List Mp} {left : Int}, 0 ≤ left → checkL o out l left = 0 → (∀ m ∈ l, oneC o out m = 0) ∧ sumC l ≤ left
  | [], left, h0, _ => ⟨by simp, by simpa [sumC] using h0⟩
  | m :: r, left, h0, h => by
    unfold checkL at h
    by_cases h1 : oneC o out m = 0
    · rw [if_neg (by simp [h1])] at h
      by_cases h2 : left - m.bits < 0
      · rw [if_pos h2] at h
        simp at h
      · rw [if_neg h2] at h
        obtain ⟨h3, h4⟩ := check_all (by omega) h
        refine ⟨fun x hx => ?_, ?_⟩
        · rcases List.mem_cons.1 hx with rfl | hx
          · exact h1
          · exact h3 x hx
        · simp only [sumC, List.map_cons, List.sum_cons] at h4 ⊢
          omega
    · rw [if_pos h1] at h
      exact absurd h h1
end Go.Proofs.YtokebpeplopjhaaDoor.Mp
namespace Go.Proofs.YtokebpeplopjhaaDoor.Mp
open Go.RowKit Go.Shelf Go.Proofs.YtokebpeplopjhaaDoor.Rng Go.Proofs.YtokebpeplopjhaaDoorW.PrintWords Go.Proofs.YtokebpeplopjhaaDoorW.PrintMore Go.Proofs.YtokebpeplopjhaaDoorW.PrintLast

theorem law_u16 : Maps.Keyed Tryd.prog 31 := Maps.int_keyed Tryd.underlying31
theorem key_u16 {i : Int} (hi : 0 ≤ i ∧ i < 65536) : keyOf Tryd.prog 31 (.int .u16 i) = some (.int .u16 i) := Maps.keyOf_int_mk Tryd.underlying31 (wf_int (by show (0 : Int) ≤ i; omega) (by show i ≤ 65535; omega))
theorem Arg.fr {M : Nat → Prop} {w w' : World} {A : Option Addr} {c : Nat} {a : List Int} (h : Arg w A c a) (hf : Fr M w w') (hM : NoByte w M) : Arg w' A c a := ⟨h.rd.frM hf hM, h.byt, h.le, h.cap⟩
/-- A value that is a row of bytes. -/
def ArgV (w : World) (v : Value) (a : List Int) : Prop := ∃ A c, v = .slice A a.length c ∧ Arg w A c a ∧ a.length ≤ 140737488355328
theorem ArgV.below {w w' : World} {v : Value} {a : List Int} (h : ArgV w v a) (hb : Below w.heap.size w w') : ArgV w' v a := by
  obtain ⟨A, c, e, h, hl⟩ := h
  exact ⟨A, c, e, h.below hb, hl⟩
theorem ArgV.fr {M : Nat → Prop} {w w' : World} {v : Value} {a : List Int} (h : ArgV w v a) (hf : Fr M w w') (hM : NoByte w M) : ArgV w' v a := by
  obtain ⟨A, c, e, h, hl⟩ := h
  exact ⟨A, c, e, h.fr hf hM, hl⟩
theorem ArgV.byt {w : World} {v : Value} {a : List Int} (h : ArgV w v a) : Byt a := by
  obtain ⟨A, c, e, h, _⟩ := h
  exact h.byt
theorem ArgV.nil (w : World) : ArgV w (.slice none 0 0) [] := ⟨none, 0, rfl, ⟨Rd.none w, (by intro x hx; cases hx), Nat.le_refl _, (by omega)⟩, Nat.zero_le _⟩
theorem ArgV.of_R {w : World} {e base : Nat} {ok : Nat → Prop} {v : Value} {a : List Int} (h : Kd.R kB e w base ok v a) (hb : Byt a) (hl' : a.length ≤ 140737488355328) : ArgV w v a := by
  obtain ⟨A, c, he, hl, hC⟩ := Kd.R_reads h
  refine ⟨A, c, he, ⟨C_Rd hC, hb, hl, ?_⟩, hl'⟩
  have hmx : maxLen = 9223372036854775807 := rfl
  obtain ⟨_, vs, hown, _⟩ := h
  rcases hown.2 with ⟨e1, _⟩ | ⟨g, cap, cur, e1, _, _, _, hcap, _⟩
  · rw [he] at e1
    injection e1
    omega
  · rw [he] at e1
    injection e1
    omega
/-- An entry's ten cells. -/
def En.cells (e : En) (v1 v2 v3 : Value) : List Value := [.int .u16 e.ix, .int .u8 e.sub, .string e.name, .int .u8 e.ty, .int .u8 e.rt, v1, v2, v3, .int .u8 e.tag, .int .u8 e.grp]
structure En.Wf (e : En) : Prop where
  ix : 0 ≤ e.ix ∧ e.ix < 65536
  sub : 0 ≤ e.sub ∧ e.sub < 256
  ty : 0 ≤ e.ty ∧ e.ty < 256
  rt : 0 ≤ e.rt ∧ e.rt < 256
  tag : 0 ≤ e.tag ∧ e.tag < 256
  grp : 0 ≤ e.grp ∧ e.grp < 256
  name : e.name.size ≤ 1000000
theorem zEn_wf : zEn.Wf := ⟨by decide, by decide, by decide, by decide, by decide, by decide, by decide⟩
/-- A value that is an entry. -/
def EnV (w : World) (v : Value) (e : En) : Prop := ∃ v1 v2 v3, v = .agg #[.int .u16 e.ix, .int .u8 e.sub, .string e.name, .int .u8 e.ty, .int .u8 e.rt, v1, v2, v3, .int .u8 e.tag, .int .u8 e.grp] ∧ ArgV w v1 e.df ∧ ArgV w v2 e.lo ∧ ArgV w v3 e.hi
/-- A value that is an item. -/
def ItV (w : World) (v : Value) (x : It) : Prop := ∃ v1 v2 v3 v4, v = .agg #[.int .u16 x.ix, .int .u8 x.sub, .string x.name, .int .u8 x.ty, .int .u8 x.rt, v1, v2, v3, .int .u8 x.tag, .int .u8 x.grp, v4] ∧ ArgV w v1 x.df ∧ ArgV w v2 x.lo ∧ ArgV w v3 x.hi ∧ ArgV w v4 x.val
theorem EnV.below {w w' : World} {v : Value} {e : En} (h : EnV w v e) (hb : Below w.heap.size w w') : EnV w' v e := by
  obtain ⟨v1, v2, v3, hv, h1, h2, h3⟩ := h
  exact ⟨v1, v2, v3, hv, h1.below hb, h2.below hb, h3.below hb⟩
theorem ItV.below {w w' : World} {v : Value} {x : It} (h : ItV w v x) (hb : Below w.heap.size w w') : ItV w' v x := by
  obtain ⟨v1, v2, v3, v4, hv, h1, h2, h3, h4⟩ := h
  exact ⟨v1, v2, v3, v4, hv, h1.below hb, h2.below hb, h3.below hb, h4.below hb⟩
theorem ItV.fr {M : Nat → Prop} {w w' : World} {v : Value} {x : It} (h : ItV w v x) (hf : Fr M w w') (hM : NoByte w M) : ItV w' v x := by
  obtain ⟨v1, v2, v3, v4, hv, h1, h2, h3, h4⟩ := h
  exact ⟨v1, v2, v3, v4, hv, h1.fr hf hM, h2.fr hf hM, h3.fr hf hM, h4.fr hf hM⟩
theorem ItV.nil (w : World) : ItV w (.agg #[.int .u16 0, .int .u8 0, .string ByteArray.empty, .int .u8 0, .int .u8 0, .slice none 0 0, .slice none 0 0, .slice none 0 0, .int .u8 0, .int .u8 0, .slice none 0 0]) zIt :=
  ⟨_, _, _, _, rfl, ArgV.nil w, ArgV.nil w, ArgV.nil w, ArgV.nil w⟩

/-- The key of a place. -/
abbrev pl (i s : Int) : Value := .agg #[.int .u16 i, .int .u8 s]
theorem law_pl : Maps.Keyed Tryd.prog 33 :=
  Maps.Keyed.of_law (deep_law_laid (P := Tryd.prog) (by kernel_rfl) (m := 2) (by omega) (of_decide_eq_true (by kernel_rfl)) (by kernel_rfl) (by rw [Tryd.underlying33]))
theorem pl_keyType : Tryd.prog.keyType 33 = true := by kernel_rfl
theorem types_pos : 0 < Tryd.prog.types.size := of_decide_eq_true (by kernel_rfl)
theorem cells_pl : Tryd.prog.cellsOf 33 = 2 := by kernel_rfl
theorem cells_u16 : Tryd.prog.cellsOf 31 = 1 := by kernel_rfl
theorem cells_u8 : Tryd.prog.cellsOf 5 = 1 := by kernel_rfl
theorem lits_pl (n : Nat) {i s : Int} (h1 : (Lit.int .u16 i).wf = true) (h2 : (Lit.int .u8 s).wf = true) : Tryd.prog.keyLits (n + 2) 33 [.int .u16 i, .int .u8 s] = some [.int .u16 i, .int .u8 s] := by
  have e1 : Tryd.prog.keyLits (n + 1) 31 [.int .u16 i] = some [.int .u16 i] := by
    unfold Program.keyLits
    rw [Tryd.underlying31]
    simp [h1]
  have e2 : Tryd.prog.keyLits (n + 1) 5 [.int .u8 s] = some [.int .u8 s] := by
    unfold Program.keyLits
    rw [Tryd.underlying5]
    simp [h2]
  unfold Program.keyLits
  rw [Tryd.underlying33]
  simp [cells_pl, cells_u16, cells_u8, e1, e2]
theorem formed_pl {i s : Int} : (pl i s).formed Tryd.prog 33 = true := by
  simp [Value.formed, Tryd.underlying33, cells_pl]
theorem key_pl {i s : Int} (hi : 0 ≤ i ∧ i < 65536) (hs : 0 ≤ s ∧ s < 256) : ∃ kl, keyOf Tryd.prog 33 (pl i s) = some kl := by
  have h1 : (Lit.int .u16 i).wf = true := wf_int (by show (0 : Int) ≤ i; omega) (by show i ≤ 65535; omega)
  have h2 : (Lit.int .u8 s).wf = true := wf_int (by show (0 : Int) ≤ s; omega) (by show s ≤ 255; omega)
  have hp := types_pos
  have hl := fun n => lits_pl n h1 h2
  unfold keyOf
  rw [Tryd.underlying33]
  simp only [pl_keyType, formed_pl, Bool.and_self, if_true, Value.cells]
  generalize Tryd.prog.types.size = N at hp ⊢
  obtain ⟨m, rfl⟩ : ∃ m, N = m + 1 := ⟨N - 1, by omega⟩
  rw [hl m]
  exact ⟨_, rfl⟩

/-- The dictionary at block g, at or beyond B. -/
structure DictAt (B : Nat) (w : World) (g : Nat) (d : DD) (bi bs n m : Nat) (fi fs : Value → Option Value) : Prop where
  blk : w.heap[g]? = some (.cells #[.map (some bi), .map (some bs), .int .i64 d.c] 125 (0, 0))
  base : B ≤ g ∧ B ≤ bi ∧ B ≤ bs ∧ bi ≠ bs
  items : MapAt Tryd.prog 33 w bi n fi
  subs : MapAt Tryd.prog 31 w bs m fs
  no : ∀ i s, 0 ≤ i ∧ i < 65536 → 0 ≤ s ∧ s < 256 → d.D i s = none → fi (pl i s) = none
  yes : ∀ i s x, 0 ≤ i ∧ i < 65536 → 0 ≤ s ∧ s < 256 → d.D i s = some x → ∃ v, fi (pl i s) = some v ∧ ItV w v x
  count : ∀ i, 0 ≤ i ∧ i < 65536 → (fs (.int .u16 i)).getD (.int .i64 0) = .int .i64 (d.S i)
theorem DictAt.below {B : Nat} {w w' : World} {g : Nat} {d : DD} {bi bs n m : Nat} {fi fs : Value → Option Value} (h : DictAt B w g d bi bs n m fi fs) (hb : Below w.heap.size w w') : DictAt B w' g d bi bs n m fi fs :=
  ⟨blk_below h.blk hb, h.base, h.items.below hb, h.subs.below hb, h.no, fun i s x hi hs hx => by
    obtain ⟨v, h1, h2⟩ := h.yes i s x hi hs hx
    exact ⟨v, h1, h2.below hb⟩, h.count⟩
def Dict (B : Nat) (w : World) (g : Nat) (d : DD) : Prop := ∃ bi bs n m fi fs, DictAt B w g d bi bs n m fi fs
theorem Dict.below {B : Nat} {w w' : World} {g : Nat} {d : DD} (h : Dict B w g d) (hb : Below w.heap.size w w') : Dict B w' g d := by
  obtain ⟨bi, bs, n, m, fi, fs, h⟩ := h
  exact ⟨bi, bs, n, m, fi, fs, h.below hb⟩
/-- A dictionary that may be none. -/
def DictV (B : Nat) (w : World) (v : Value) (o : Option DD) : Prop := match o with
  | some d => ∃ g, v = .pointer (some ⟨g, 0, none⟩) ∧ Dict B w g d
  | .none => v = .pointer .none
theorem DictV.below {B : Nat} {w w' : World} {v : Value} {o : Option DD} (h : DictV B w v o) (hb : Below w.heap.size w w') : DictV B w' v o := by
  cases o with
  | none => exact h
  | some d =>
    obtain ⟨g, e, hd⟩ := h
    exact ⟨g, e, hd.below hb⟩
set_option maxRecDepth 100000 in
/-- The look-up of an item, in every world above. -/
theorem DictAt.look {B : Nat} {w : World} {g : Nat} {d : DD} {bi bs n m : Nat} {fi fs : Value → Option Value} (h : DictAt B w g d bi bs n m fi fs) {i s : Int} (hi : 0 ≤ i ∧ i < 65536) (hs : 0 ≤ s ∧ s < 256) :
    ∃ v, ItV w v ((d.D i s).getD zIt) ∧ ∀ c W, Below w.heap.size w W → (Instr.lookup 122 (.map (some bi)) (pl i s) c).run Tryd.prog W = .ok (if c then .tuple #[v, .bool (d.D i s).isSome] else v) W := by
  obtain ⟨kl, hk⟩ := key_pl hi hs
  have hz : ∀ W, (zeroValue 128).run Tryd.prog W = .ok (.agg #[.int .u16 0, .int .u8 0, .string ByteArray.empty, .int .u8 0, .int .u8 0, .slice none 0 0, .slice none 0 0, .slice none 0 0, .int .u8 0, .int .u8 0, .slice none 0 0]) W := fun W => by kernel_rfl
  cases hd : d.D i s with
  | none =>
    refine ⟨_, ItV.nil w, fun c W hW => ?_⟩
    have h1 := (h.items.below hW).look law_pl Tryd.underlying122 (hz W) hk c
    rw [h.no i s hi hs hd] at h1
    exact h1
  | some x =>
    obtain ⟨v, h2, h3⟩ := h.yes i s x hi hs hd
    refine ⟨v, h3, fun c W hW => ?_⟩
    have h1 := (h.items.below hW).look law_pl Tryd.underlying122 (hz W) hk c
    rw [h2] at h1
    exact h1
set_option maxRecDepth 100000 in
theorem DictAt.lookS {B : Nat} {w : World} {g : Nat} {d : DD} {bi bs n m : Nat} {fi fs : Value → Option Value} (h : DictAt B w g d bi bs n m fi fs) {i : Int} (hi : 0 ≤ i ∧ i < 65536) :
    ∀ W, Below w.heap.size w W → (Instr.lookup 123 (.map (some bs)) (.int .u16 i) false).run Tryd.prog W = .ok (.int .i64 (d.S i)) W := by
  intro W hW
  have hz : (zeroValue 3).run Tryd.prog W = .ok (.int .i64 0) W := by kernel_rfl
  have h1 := (h.subs.below hW).look law_u16 Tryd.underlying123 hz (key_u16 hi) false
  rw [h.count i hi] at h1
  exact h1
end Go.Proofs.YtokebpeplopjhaaDoor.Mp
namespace Go.Proofs.YtokebpeplopjhaaDoor.Mp
open Go.RowKit Go.Proofs.YtokebpeplopjhaaDoorW.PrintWords Go.Proofs.YtokebpeplopjhaaDoorW.PrintMore Go.Proofs.YtokebpeplopjhaaDoorW.PrintLast

/-- An array into which a list is put from a place on. -/
def putAt : Array Value → Nat → List Value → Array Value
  | cs, _, [] => cs
  | cs, o, v :: r => putAt (cs.setIfInBounds o v) (o + 1) r
theorem heap_setCells {g : Nat} {t : TypeId} : ∀ (vs : List Value) (o : Nat) (w : World) (cs : Array Value), w.heap[g]? = some (.cells cs t (0, 0)) → (w.setCells g o vs).heap[g]? = some (.cells (putAt cs o vs) t (0, 0))
  | [], _, _, _, h => h
  | v :: r, o, w, cs, h => heap_setCells r (o + 1) (w.setCell ⟨g, o, none⟩ v) (cs.setIfInBounds o v) (blk_put h o v rfl)
theorem cells11 (W : World) (g : Nat) (v0 v1 v2 v3 v4 v5 v6 v7 v8 v9 v10 : Value) :
    ((((((((((W.setCell ⟨g, 0, none⟩ v0).setCell ⟨g, 1, none⟩ v1).setCell ⟨g, 2, none⟩ v2).setCell ⟨g, 3, none⟩ v3).setCell ⟨g, 4, none⟩ v4).setCell ⟨g, 5, none⟩ v5).setCell ⟨g, 6, none⟩ v6).setCell ⟨g, 7, none⟩ v7).setCell ⟨g, 8, none⟩ v8).setCell ⟨g, 9, none⟩ v9).setCell ⟨g, 10, none⟩ v10 = W.setCells g 0 [v0, v1, v2, v3, v4, v5, v6, v7, v8, v9, v10] := rfl
theorem putAt11 (u0 u1 u2 u3 u4 u5 u6 u7 u8 u9 u10 v0 v1 v2 v3 v4 v5 v6 v7 v8 v9 v10 : Value) : putAt #[u0, u1, u2, u3, u4, u5, u6, u7, u8, u9, u10] 0 [v0, v1, v2, v3, v4, v5, v6, v7, v8, v9, v10] = #[v0, v1, v2, v3, v4, v5, v6, v7, v8, v9, v10] := by simp [putAt]
theorem row11 {W : World} {g : Nat} {t : TypeId} {u0 u1 u2 u3 u4 u5 u6 u7 u8 u9 u10 : Value} (h : W.heap[g]? = some (.cells #[u0, u1, u2, u3, u4, u5, u6, u7, u8, u9, u10] t (0, 0))) (v0 v1 v2 v3 v4 v5 v6 v7 v8 v9 v10 : Value) :
    (W.setCells g 0 [v0, v1, v2, v3, v4, v5, v6, v7, v8, v9, v10]).heap[g]? = some (.cells #[v0, v1, v2, v3, v4, v5, v6, v7, v8, v9, v10] t (0, 0)) := by
  rw [← putAt11 u0 u1 u2 u3 u4 u5 u6 u7 u8 u9 u10]
  exact heap_setCells _ _ _ _ h
theorem below_cells {B g : Nat} (hg : B ≤ g) : ∀ (vs : List Value) (o : Nat) {a w : World}, Below B a w → Below B a (w.setCells g o vs)
  | [], _, _, _, h => h
  | v :: r, o, _, _, h => below_cells hg r (o + 1) (h.setCell (p := ⟨g, o, none⟩) hg v)
theorem alloc_drewN (w : World) (o : Obj) (m : Nat) : (w.alloc o).drewN m = (w.drewN m).alloc o := rfl
theorem drewN_new (w : World) (o : Obj) (m : Nat) : ((w.alloc o).drewN m).heap[w.heap.size]? = some o := World.alloc_heap_new w o
/-- A new row of eleven cells, a draw, a store over the whole row. -/
theorem new_row (w : World) (t : TypeId) (m : Nat) (u0 u1 u2 u3 u4 u5 u6 u7 u8 u9 u10 v0 v1 v2 v3 v4 v5 v6 v7 v8 v9 v10 : Value) :
    (((w.alloc (.cells #[u0, u1, u2, u3, u4, u5, u6, u7, u8, u9, u10] t)).drewN m).setCells w.heap.size 0 [v0, v1, v2, v3, v4, v5, v6, v7, v8, v9, v10]).heap[w.heap.size]? = some (.cells #[v0, v1, v2, v3, v4, v5, v6, v7, v8, v9, v10] t (0, 0)) := by
  have h := drewN_new w (.cells #[u0, u1, u2, u3, u4, u5, u6, u7, u8, u9, u10] t) m
  generalize (w.alloc (.cells #[u0, u1, u2, u3, u4, u5, u6, u7, u8, u9, u10] t)).drewN m = W at h
  exact row11 h v0 v1 v2 v3 v4 v5 v6 v7 v8 v9 v10
theorem new_below (w : World) (o : Obj) (m : Nat) (vs : List Value) : Below w.heap.size w (((w.alloc o).drewN m).setCells w.heap.size 0 vs) :=
  below_cells (Nat.le_refl _) _ _ (below_drewN (below_alloc (Below.refl _ _) _) m)
theorem two_new1 (w : World) (o1 o2 : Obj) (m : Nat) : (((w.alloc o1).drewN m).alloc o2).heap[w.heap.size]? = some o1 := blk_alloc (drewN_new w o1 m) o2
theorem two_new2 (w : World) (o1 o2 : Obj) (m : Nat) : (((w.alloc o1).drewN m).alloc o2).heap[w.heap.size + 1]? = some o2 := by
  have h := heap_alloc_new ((w.alloc o1).drewN m) o2
  have hs : ((w.alloc o1).drewN m).heap.size = w.heap.size + 1 := by
    show (w.alloc o1).heap.size = _
    simp
  rwa [hs] at h
theorem two_below (w : World) (o1 o2 : Obj) (m : Nat) : Below w.heap.size w (((w.alloc o1).drewN m).alloc o2) :=
  (below_drewN (below_alloc (Below.refl _ _) _) m).alloc (by show _ ≤ (w.alloc o1).heap.size; simp) _
/-- A row of eleven cells, each by itself. -/
theorem held11 {W : World} {g : Nat} {t : TypeId} {u0 u1 u2 u3 u4 u5 u6 u7 u8 u9 u10 : Value} (h : W.heap[g]? = some (.cells #[u0, u1, u2, u3, u4, u5, u6, u7, u8, u9, u10] t (0, 0))) :
    W.cell? ⟨g, 0, none⟩ = some u0 ∧ W.cell? ⟨g, 1, none⟩ = some u1 ∧ W.cell? ⟨g, 2, none⟩ = some u2 ∧ W.cell? ⟨g, 3, none⟩ = some u3 ∧ W.cell? ⟨g, 4, none⟩ = some u4 ∧ W.cell? ⟨g, 5, none⟩ = some u5 ∧ W.cell? ⟨g, 6, none⟩ = some u6 ∧ W.cell? ⟨g, 7, none⟩ = some u7 ∧ W.cell? ⟨g, 8, none⟩ = some u8 ∧ W.cell? ⟨g, 9, none⟩ = some u9 ∧ W.cell? ⟨g, 10, none⟩ = some u10 ∧ ∀ j, W.frozen? ⟨g, j, none⟩ = false :=
  ⟨blk_cell h 0, blk_cell h 1, blk_cell h 2, blk_cell h 3, blk_cell h 4, blk_cell h 5, blk_cell h 6, blk_cell h 7, blk_cell h 8, blk_cell h 9, blk_cell h 10, fun j => blk_frozen h j⟩
end Go.Proofs.YtokebpeplopjhaaDoor.Mp
namespace Go.Proofs.YtokebpeplopjhaaDoor.Mp
open Go.RowKit Go.Shelf Go.Proofs.YtokebpeplopjhaaDoor.Rng Go.Proofs.YtokebpeplopjhaaDoorW.PrintWords Go.Proofs.YtokebpeplopjhaaDoorW.PrintMore Go.Proofs.YtokebpeplopjhaaDoorW.PrintLast

/-- What find tells. -/
def FndSaid (w : World) (r : It × Int) (e : Ending) (w' : World) : Prop := ∃ v, e = .returned (.tuple #[v, .int .u32 r.2]) ∧ ItV w' v r.1 ∧ Below w.heap.size w w'
theorem info_it : (Tryd.prog.info? 128).map (·.size) = some 11 := by kernel_rfl
/-- The end: an item in a block of its own, and a code. -/
theorem find_end {tmps : Array Value} {W : World} {b : Nat} {cs : Array Value} {t : TypeId} {n : Int} (h4 : tmps.getD 4 undef = .pointer (some ⟨b, 0, none⟩)) (h5 : tmps.getD 5 undef = .int .u32 n) (hb : W.heap[b]? = some (.cells cs t (0, 0))) (hs : cs.size = 11) :
    (results Tryd.f76 tmps).run Tryd.prog W = .ok (.tuple #[.agg cs, .int .u32 n]) W := by
  rw [← h5]
  exact results_ct rfl tmps W b t cs (0, 0) _ h4 hb Tryd.underlying128 rfl (by rw [info_it, hs])
set_option maxRecDepth 100000 in
set_option maxHeartbeats 1000000 in
theorem find_nil (i s : Int) (w : World) : Calls Tryd.prog 76 #[.pointer none, pl i s] w (FndSaid w (findC none i s)) := by
  go_enter Tryd.func76, Tryd.ntmps76
  go_wp2
  have hb : Below w.heap.size w (w.alloc (.cells #[.int .u16 i, .int .u8 s] 33)) := below_alloc (Below.refl _ _) _
  refine bodyPost_ret (find_end (b := w.heap.size + 1) (cs := #[.int .u16 0, .int .u8 0, .string ByteArray.empty, .int .u8 0, .int .u8 0, .slice none 0 0, .slice none 0 0, .slice none 0 0, .int .u8 0, .int .u8 0, .slice none 0 0]) (t := 128) rfl rfl ?_ rfl) rfl ⟨_, rfl, ItV.nil _, ?_⟩
  · have := blk_new (w.alloc (.cells #[.int .u16 i, .int .u8 s] 33)) (.cells #[.int .u16 0, .int .u8 0, .string ByteArray.empty, .int .u8 0, .int .u8 0, .slice none 0 0, .slice none 0 0, .slice none 0 0, .int .u8 0, .int .u8 0, .slice none 0 0] 128)
    rwa [World.size_alloc] at this
  · exact hb.alloc (by simp) _
set_option maxRecDepth 100000 in
set_option maxHeartbeats 1000000 in
theorem find_yes (B : Nat) (g : Nat) (d : DD) (i s : Int) (x : It) (hi : 0 ≤ i ∧ i < 65536) (hs : 0 ≤ s ∧ s < 256) (w : World) (h : Dict B w g d) (hd : d.D i s = some x) : Calls Tryd.prog 76 #[.pointer (some ⟨g, 0, none⟩), pl i s] w (FndSaid w (x, 0)) := by
  obtain ⟨bi, bs, n, m, fi, fs, h⟩ := h
  obtain ⟨v, hv, hl⟩ := h.look hi hs
  rw [hd] at hv hl
  simp only [Option.getD_some, Option.isSome_some] at hv hl
  have hg0 := blk_cell h.blk 0
  simp at hg0
  have HV := Aside0.mk hv
  obtain ⟨v1, v2, v3, v4, rfl, ⟨A1, a1, rfl, -⟩, ⟨A2, a2, rfl, -⟩, ⟨A3, a3, rfl, -⟩, ⟨A4, a4, rfl, -⟩⟩ := hv
  have hl1 := fun W hW => hl true W hW
  simp only [if_true] at hl1
  clear h hl
  go_enter Tryd.func76, Tryd.ntmps76
  go_wp2
  obtain ⟨W2, hW2⟩ : ∃ W2, ((w.alloc (.cells #[.int .u16 i, .int .u8 s] 33)).alloc (.cells #[.int .u16 0, .int .u8 0, .string { data := #[] }, .int .u8 0, .int .u8 0, .slice none 0 0, .slice none 0 0, .slice none 0 0, .int .u8 0, .int .u8 0, .slice none 0 0] 128)) = W2 := ⟨_, rfl⟩
  have hb2 : Below w.heap.size w W2 := hW2 ▸ (below_alloc (Below.refl _ _) _).alloc (by simp) _
  have hp2 : W2.heap[w.heap.size]? = some (.cells #[.int .u16 i, .int .u8 s] 33 (0, 0)) := hW2 ▸ blk_alloc (blk_new _ _) _
  have hr2 : W2.heap[w.heap.size + 1]? = some (.cells #[.int .u16 0, .int .u8 0, .string { data := #[] }, .int .u8 0, .int .u8 0, .slice none 0 0, .slice none 0 0, .slice none 0 0, .int .u8 0, .int .u8 0, .slice none 0 0] 128 (0, 0)) := by
    have := blk_new (w.alloc (.cells #[.int .u16 i, .int .u8 s] 33)) (.cells #[.int .u16 0, .int .u8 0, .string { data := #[] }, .int .u8 0, .int .u8 0, .slice none 0 0, .slice none 0 0, .slice none 0 0, .int .u8 0, .int .u8 0, .slice none 0 0] 128)
    rw [World.size_alloc, hW2] at this
    exact this
  have hl2 : ∀ X, Below W2.heap.size W2 X → (Instr.lookup 122 (.map (some bi)) (pl i s) true).run Tryd.prog X = .ok (.tuple #[.agg #[.int .u16 x.ix, .int .u8 x.sub, .string x.name, .int .u8 x.ty, .int .u8 x.rt, .slice A1 x.df.length a1, .slice A2 x.lo.length a2, .slice A3 x.hi.length a3, .int .u8 x.tag, .int .u8 x.grp, .slice A4 x.val.length a4], .bool true]) X := fun X hX => hl1 X (below_step hb2 hX)
  have hS0 : Below W2.heap.size W2 W2 := Below.refl _ _
  have c1 : ∀ X, Below W2.heap.size W2 X → X.cell? ⟨g, 0, none⟩ = some (.map (some bi)) := fun X hX => pw_cell_below (below_step hb2 hX) hg0
  have c2 : ∀ X, Below W2.heap.size W2 X → X.cell? ⟨w.heap.size, 0, none⟩ = some (.int .u16 i) := fun X hX => pw_cell_below hX (blk_cell hp2 0)
  have c3 : ∀ X, Below W2.heap.size W2 X → X.cell? ⟨w.heap.size, 1, none⟩ = some (.int .u8 s) := fun X hX => pw_cell_below hX (blk_cell hp2 1)
  rw [hW2]
  have HB2 := Aside0.mk hb2
  have HR2 := Aside0.mk hr2
  clear hW2 hb2 hp2 hr2 hl1 hg0
  go_region_held3 (fun X => Below W2.heap.size W2 X) (first | assumption | exact below_step (by assumption) (by assumption) | exact below_drew (by assumption) | exact below_made (by assumption) _ | (repeat (first | exact Below.refl _ _ | assumption | refine Below.setCell ?_ (Nat.le_refl _) _ | refine below_made ?_ _ | refine below_drew ?_)))
    (fail)
  all_goals
    have hr3 := blk_drew (blk_alloc HR2.out (.cells #[.int .u16 x.ix, .int .u8 x.sub, .string x.name, .int .u8 x.ty, .int .u8 x.rt, .slice A1 x.df.length a1, .slice A2 x.lo.length a2, .slice A3 x.hi.length a3, .int .u8 x.tag, .int .u8 x.grp, .slice A4 x.val.length a4] 128))
    have hn3 := blk_drew (blk_new W2 (.cells #[.int .u16 x.ix, .int .u8 x.sub, .string x.name, .int .u8 x.ty, .int .u8 x.rt, .slice A1 x.df.length a1, .slice A2 x.lo.length a2, .slice A3 x.hi.length a3, .int .u8 x.tag, .int .u8 x.grp, .slice A4 x.val.length a4] 128))
    have hb3 : Below w.heap.size w ((W2.alloc (.cells #[.int .u16 x.ix, .int .u8 x.sub, .string x.name, .int .u8 x.ty, .int .u8 x.rt, .slice A1 x.df.length a1, .slice A2 x.lo.length a2, .slice A3 x.hi.length a3, .int .u8 x.tag, .int .u8 x.grp, .slice A4 x.val.length a4] 128)).drew) := (below_made HB2.out _).drew
    generalize (W2.alloc (.cells #[.int .u16 x.ix, .int .u8 x.sub, .string x.name, .int .u8 x.ty, .int .u8 x.rt, .slice A1 x.df.length a1, .slice A2 x.lo.length a2, .slice A3 x.hi.length a3, .int .u8 x.tag, .int .u8 x.grp, .slice A4 x.val.length a4] 128)).drew = W3 at hr3 hn3 hb3 ⊢
    obtain ⟨k0, k1, k2, k3, k4, k5, k6, k7, k8, k9, k10, kf⟩ := held11 hr3
    obtain ⟨m0, m1, m2, m3, m4, m5, m6, m7, m8, m9, m10, -⟩ := held11 hn3
    have HR3 := Aside0.mk hr3
    have HB3 := Aside0.mk hb3
    clear hr3 hb3 hS0 hn3
    go_wp2
    rw [cells11]
    refine bodyPost_ret (find_end (b := w.heap.size + 1) (cs := #[.int .u16 x.ix, .int .u8 x.sub, .string x.name, .int .u8 x.ty, .int .u8 x.rt, .slice A1 x.df.length a1, .slice A2 x.lo.length a2, .slice A3 x.hi.length a3, .int .u8 x.tag, .int .u8 x.grp, .slice A4 x.val.length a4]) (t := 128) rfl rfl ?_ rfl) rfl ⟨_, rfl, ?_, ?_⟩
    · exact row11 HR3.out ..
    · exact ItV.below (w := w) (x := x) HV.out (below_cells (by omega) _ _ HB3.out)
    · exact below_cells (by omega) _ _ HB3.out
end Go.Proofs.YtokebpeplopjhaaDoor.Mp
namespace Go.Proofs.YtokebpeplopjhaaDoor.Mp
open Go.RowKit Go.Shelf Go.Proofs.YtokebpeplopjhaaDoor.Rng Go.Proofs.YtokebpeplopjhaaDoorW.PrintWords Go.Proofs.YtokebpeplopjhaaDoorW.PrintMore Go.Proofs.YtokebpeplopjhaaDoorW.PrintLast

set_option maxRecDepth 100000 in
theorem DictAt.lookN {B : Nat} {w : World} {g : Nat} {d : DD} {bi bs n m : Nat} {fi fs : Value → Option Value} (h : DictAt B w g d bi bs n m fi fs) {i s : Int} (hi : 0 ≤ i ∧ i < 65536) (hs : 0 ≤ s ∧ s < 256) (hd : d.D i s = none) :
    ∀ W, Below w.heap.size w W → (Instr.lookup 122 (.map (some bi)) (pl i s) true).run Tryd.prog W = .ok (.tuple #[.agg #[.int .u16 0, .int .u8 0, .string { data := #[] }, .int .u8 0, .int .u8 0, .slice none 0 0, .slice none 0 0, .slice none 0 0, .int .u8 0, .int .u8 0, .slice none 0 0], .bool false]) W := by
  obtain ⟨kl, hk⟩ := key_pl hi hs
  have hz : ∀ W, (zeroValue 128).run Tryd.prog W = .ok (.agg #[.int .u16 0, .int .u8 0, .string { data := #[] }, .int .u8 0, .int .u8 0, .slice none 0 0, .slice none 0 0, .slice none 0 0, .int .u8 0, .int .u8 0, .slice none 0 0]) W := fun W => by kernel_rfl
  intro W hW
  have h1 := (h.items.below hW).look law_pl Tryd.underlying122 (hz W) hk true
  rw [h.no i s hi hs hd] at h1
  exact h1
set_option maxRecDepth 100000 in
set_option maxHeartbeats 1000000 in
theorem find_no (B : Nat) (g : Nat) (d : DD) (i s : Int) (hi : 0 ≤ i ∧ i < 65536) (hs : 0 ≤ s ∧ s < 256) (w : World) (h : Dict B w g d) (hd : d.D i s = none) : Calls Tryd.prog 76 #[.pointer (some ⟨g, 0, none⟩), pl i s] w (FndSaid w (zIt, if 0 < d.S i then 0x06090011 else 0x06020000)) := by
  obtain ⟨bi, bs, n, m, fi, fs, h⟩ := h
  have hg0 := blk_cell h.blk 0
  have hg1 := blk_cell h.blk 1
  simp at hg0 hg1
  have hl1 := h.lookN hi hs hd
  have hs1 := h.lookS hi
  clear h
  obtain ⟨r, hr⟩ : ∃ r : Int, (if 0 < d.S i then 0x06090011 else 0x06020000) = r := ⟨_, rfl⟩
  rw [hr]
  go_enter Tryd.func76, Tryd.ntmps76
  go_wp2
  obtain ⟨W2, hW2⟩ : ∃ W2, ((w.alloc (.cells #[.int .u16 i, .int .u8 s] 33)).alloc (.cells #[.int .u16 0, .int .u8 0, .string { data := #[] }, .int .u8 0, .int .u8 0, .slice none 0 0, .slice none 0 0, .slice none 0 0, .int .u8 0, .int .u8 0, .slice none 0 0] 128)) = W2 := ⟨_, rfl⟩
  have hb2 : Below w.heap.size w W2 := hW2 ▸ (below_alloc (Below.refl _ _) _).alloc (by simp) _
  have hp2 : W2.heap[w.heap.size]? = some (.cells #[.int .u16 i, .int .u8 s] 33 (0, 0)) := hW2 ▸ blk_alloc (blk_new _ _) _
  have hr2 : W2.heap[w.heap.size + 1]? = some (.cells #[.int .u16 0, .int .u8 0, .string { data := #[] }, .int .u8 0, .int .u8 0, .slice none 0 0, .slice none 0 0, .slice none 0 0, .int .u8 0, .int .u8 0, .slice none 0 0] 128 (0, 0)) := by
    have := blk_new (w.alloc (.cells #[.int .u16 i, .int .u8 s] 33)) (.cells #[.int .u16 0, .int .u8 0, .string { data := #[] }, .int .u8 0, .int .u8 0, .slice none 0 0, .slice none 0 0, .slice none 0 0, .int .u8 0, .int .u8 0, .slice none 0 0] 128)
    rw [World.size_alloc, hW2] at this
    exact this
  have hl2 : ∀ X, Below W2.heap.size W2 X → (Instr.lookup 122 (.map (some bi)) (pl i s) true).run Tryd.prog X = .ok (.tuple #[.agg #[.int .u16 0, .int .u8 0, .string { data := #[] }, .int .u8 0, .int .u8 0, .slice none 0 0, .slice none 0 0, .slice none 0 0, .int .u8 0, .int .u8 0, .slice none 0 0], .bool false]) X := fun X hX => hl1 X (below_step hb2 hX)
  have hS0 : Below W2.heap.size W2 W2 := Below.refl _ _
  have hs2 : ∀ X, Below W2.heap.size W2 X → (Instr.lookup 123 (.map (some bs)) (.int .u16 i) false).run Tryd.prog X = .ok (.int .i64 (d.S i)) X := fun X hX => hs1 X (below_step hb2 hX)
  have c0 : ∀ X, Below W2.heap.size W2 X → X.cell? ⟨g, 1, none⟩ = some (.map (some bs)) := fun X hX => pw_cell_below (below_step hb2 hX) hg1
  have c1 : ∀ X, Below W2.heap.size W2 X → X.cell? ⟨g, 0, none⟩ = some (.map (some bi)) := fun X hX => pw_cell_below (below_step hb2 hX) hg0
  have c2 : ∀ X, Below W2.heap.size W2 X → X.cell? ⟨w.heap.size, 0, none⟩ = some (.int .u16 i) := fun X hX => pw_cell_below hX (blk_cell hp2 0)
  have c3 : ∀ X, Below W2.heap.size W2 X → X.cell? ⟨w.heap.size, 1, none⟩ = some (.int .u8 s) := fun X hX => pw_cell_below hX (blk_cell hp2 1)
  rw [hW2]
  have HB2 := Aside0.mk hb2
  have HR2 := Aside0.mk hr2
  clear hW2 hb2 hp2 hr2 hl1 hg0 hg1 hs1
  go_region_held3 (fun X => Below W2.heap.size W2 X) (first | assumption | exact below_step (by assumption) (by assumption) | exact below_drew (by assumption) | exact below_made (by assumption) _ | (repeat (first | exact Below.refl _ _ | assumption | refine Below.setCell ?_ (Nat.le_refl _) _ | refine below_made ?_ _ | refine below_drew ?_)))
    (fail)
  all_goals
    have hr3 := blk_drew (blk_alloc HR2.out (.cells #[.int .u16 0, .int .u8 0, .string { data := #[] }, .int .u8 0, .int .u8 0, .slice none 0 0, .slice none 0 0, .slice none 0 0, .int .u8 0, .int .u8 0, .slice none 0 0] 128))
    have hb23 : Below W2.heap.size W2 ((W2.alloc (.cells #[.int .u16 0, .int .u8 0, .string { data := #[] }, .int .u8 0, .int .u8 0, .slice none 0 0, .slice none 0 0, .slice none 0 0, .int .u8 0, .int .u8 0, .slice none 0 0] 128)).drew) := (below_alloc (Below.refl _ _) _).drew
    have hb3 : Below w.heap.size w ((W2.alloc (.cells #[.int .u16 0, .int .u8 0, .string { data := #[] }, .int .u8 0, .int .u8 0, .slice none 0 0, .slice none 0 0, .slice none 0 0, .int .u8 0, .int .u8 0, .slice none 0 0] 128)).drew) := (below_made HB2.out _).drew
    generalize (W2.alloc (.cells #[.int .u16 0, .int .u8 0, .string { data := #[] }, .int .u8 0, .int .u8 0, .slice none 0 0, .slice none 0 0, .slice none 0 0, .int .u8 0, .int .u8 0, .slice none 0 0] 128)).drew = W3 at hr3 hb3 hb23 ⊢
    obtain ⟨k0, k1, k2, k3, k4, k5, k6, k7, k8, k9, k10, kf⟩ := held11 hr3
    have q0 := c0 W3 hb23
    have q1 := c2 W3 hb23
    have q2 := hs2 W3 hb23
    have q3 : ∀ m, (Instr.lookup 123 (.map (some bs)) (.int .u16 i) false).run Tryd.prog (W3.drewN m) = .ok (.int .i64 (d.S i)) (W3.drewN m) := fun m => hs2 _ (below_drewN hb23 m)
    have HR3 := Aside0.mk hr3
    have HB3 := Aside0.mk hb3
    clear hr3 hb3 hb23 hS0 c0 c1 c2 c3 hs2 hl2
    by_cases hc : 0 < d.S i
    · rw [if_pos hc] at hr
      subst hr
      go_wp2
      go_quiet (fail)
      go_wp2
      rw [cells11]
      refine bodyPost_ret (find_end (b := w.heap.size + 1) (cs := #[.int .u16 0, .int .u8 0, .string { data := #[] }, .int .u8 0, .int .u8 0, .slice none 0 0, .slice none 0 0, .slice none 0 0, .int .u8 0, .int .u8 0, .slice none 0 0]) (t := 128) rfl rfl ?_ rfl) rfl ⟨_, rfl, ItV.nil _, ?_⟩
      · exact row11 (blk_drewN HR3.out _) ..
      · exact below_cells (by omega) _ _ (below_drewN HB3.out _)
    · rw [if_neg hc] at hr
      subst hr
      have hc2 : decide (0 < d.S i) = false := by simpa using hc
      go_wp2
      go_quiet (fail)
      go_wp2
      rw [cells11]
      refine bodyPost_ret (find_end (b := w.heap.size + 1) (cs := #[.int .u16 0, .int .u8 0, .string { data := #[] }, .int .u8 0, .int .u8 0, .slice none 0 0, .slice none 0 0, .slice none 0 0, .int .u8 0, .int .u8 0, .slice none 0 0]) (t := 128) rfl rfl ?_ rfl) rfl ⟨_, rfl, ItV.nil _, ?_⟩
      · exact row11 (blk_drewN HR3.out _) ..
      · exact below_cells (by omega) _ _ (below_drewN HB3.out _)
end Go.Proofs.YtokebpeplopjhaaDoor.Mp
