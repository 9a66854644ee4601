/- The plain reading of frames: which are right, how they are written, what a text is read as. -/
import Derived.Test.YtmgabmcfgnlpfaaDoorNmb
import Derived.Lib.EndianBits
namespace Go.Proofs.YtmgabmcfgnlpfaaDoor.Frm

/-- A frame. -/
structure Fm where
  id : Int
  len : Int
  d : List Int
  rem : Bool
def Fm.cells (f : Fm) : Array Value := #[.int .u16 f.id, .int .i64 f.len] ++ (f.d.map (Value.int .u8)).toArray ++ #[.bool f.rem]
def fm0 : Fm := ⟨0, 0, [0, 0, 0, 0, 0, 0, 0, 0], false⟩
/-- The digit of a number. -/
def digC (n : Int) : UInt8 := digL[n.toNat]?.getD 0
theorem hexV_digC {n : Int} (h0 : 0 ≤ n) (h1 : n < 16) : hexV (digC n) = n := by
  obtain ⟨k, rfl⟩ := Int.eq_ofNat_of_zero_le h0
  have h : ∀ k : Nat, k < 16 → hexV (digC k) = k := by decide
  exact h k (by omega)
theorem digC_ne {n : Int} (h0 : 0 ≤ n) (h1 : n < 16) : digC n ≠ 82 ∧ digC n ≠ 35 := by
  obtain ⟨k, rfl⟩ := Int.eq_ofNat_of_zero_le h0
  have h : ∀ k : Nat, k < 16 → digC k ≠ 82 ∧ digC k ≠ 35 := by decide
  exact h k (by omega)
theorem isHex_digC {n : Int} (h0 : 0 ≤ n) (h1 : n < 16) : isHex (digC n) := by
  unfold isHex
  rw [hexV_digC h0 h1]
  exact h0
set_option maxRecDepth 100000 in
theorem hex_all : ∀ n : Nat, n < 256 → (0 ≤ hexV n.toUInt8 → hexV n.toUInt8 < 16 ∧ digC (hexV n.toUInt8) = n.toUInt8) := by decide
theorem digC_hexV {b : UInt8} (h : isHex b) : hexV b < 16 ∧ digC (hexV b) = b := by
  have h1 := hex_all b.toNat b.toNat_lt
  rw [show b.toNat.toUInt8 = b by simp] at h1
  exact h1 h
theorem hexV_ge (b : UInt8) : -1 ≤ hexV b := Lib.indexByte_ge _ _
theorem step_hex {n : Int} {b : UInt8} (h0 : 0 ≤ n) (h1 : n < 65536) (hb : isHex b) : stepN n b = n * 16 + hexV b := by
  have h2 := (digC_hexV hb).1
  have h3 : 0 ≤ hexV b := hb
  unfold stepN
  generalize hexV b = v at h2 h3 ⊢
  rw [wraps_u64 _ (by omega) (by omega), wraps_u64 _ (by omega) (by omega)]
  exact bits_join .u64 64 (by decide) wraps_u64 4 (n * 16) v (by omega) (by omega) (by omega) h3 (by omega) (by omega)
theorem num3 {a b c : UInt8} (ha : isHex a) (hb : isHex b) (hc : isHex c) : numU [a, b, c] = (hexV a * 16 + hexV b) * 16 + hexV c := by
  have h1 := (digC_hexV ha).1
  have h2 := (digC_hexV hb).1
  have h3 : 0 ≤ hexV a := ha
  have h4 : 0 ≤ hexV b := hb
  have e1 : stepN 0 a = hexV a := by rw [step_hex (by omega) (by omega) ha]; omega
  have e2 : stepN (hexV a) b = hexV a * 16 + hexV b := step_hex h3 (by omega) hb
  have e3 := step_hex (n := hexV a * 16 + hexV b) (by omega) (by omega) hc
  simp only [numU, List.foldl]
  rw [e1, e2, e3]
theorem num2 {a b : UInt8} (ha : isHex a) (hb : isHex b) : numU [a, b] = hexV a * 16 + hexV b := by
  have h1 := (digC_hexV ha).1
  have h3 : 0 ≤ hexV a := ha
  have e1 : stepN 0 a = hexV a := by rw [step_hex (by omega) (by omega) ha]; omega
  have e2 : stepN (hexV a) b = hexV a * 16 + hexV b := step_hex h3 (by omega) hb
  simp only [numU, List.foldl]
  rw [e1, e2]
def pr (x : Int) : List UInt8 := [digC (x / 16), digC (x % 16)]
def pairs : List Int → List UInt8
  | [] => []
  | x :: l => digC (x / 16) :: digC (x % 16) :: pairs l
/-- How a frame is written. -/
def wrF (f : Fm) : List UInt8 := [digC (f.id / 256), digC (f.id / 16 % 16), digC (f.id % 16), 35] ++ (if f.rem then [82, digC f.len] else pairs (f.d.take f.len.toNat))
structure Wf (f : Fm) : Prop where
  dl : f.d.length = 8
  db : ∀ x ∈ f.d, 0 ≤ x ∧ x < 256
  i0 : 0 ≤ f.id
/-- Is a frame right? -/
def Rt (f : Fm) : Prop := f.id ≤ 2047 ∧ 0 ≤ f.len ∧ f.len ≤ 8 ∧ ∀ i : Nat, i < 8 → f.d[i]?.getD 0 = 0 ∨ ((i : Int) < f.len ∧ f.rem = false)
/-- A digit's value; 0: it is none. -/
def vz (b : UInt8) : Int := if hexV b < 0 then 0 else hexV b
theorem vz_digC {n : Int} (h0 : 0 ≤ n) (h1 : n < 16) : vz (digC n) = n := by
  unfold vz
  rw [hexV_digC h0 h1, if_neg (by omega)]
theorem vz_bound (b : UInt8) : 0 ≤ vz b ∧ vz b < 16 := by
  unfold vz
  split
  · omega
  · have h := (digC_hexV (b := b) (by unfold isHex; omega)).1
    omega
theorem pairs_len : ∀ l : List Int, (pairs l).length = 2 * l.length
  | [] => rfl
  | x :: l => by simp [pairs, pairs_len l]; omega
theorem pairs_hex : ∀ l : List Int, (∀ x ∈ l, 0 ≤ x ∧ x < 256) → ∀ b ∈ pairs l, isHex b
  | [], _, b, hb => by simp [pairs] at hb
  | x :: l, h, b, hb => by
    have hx := h x (by simp)
    simp only [pairs, List.mem_cons] at hb
    rcases hb with rfl | rfl | hb
    · exact isHex_digC (by omega) (by omega)
    · exact isHex_digC (by omega) (by omega)
    · exact pairs_hex l (fun y hy => h y (by simp [hy])) b hb
/-- A right frame's text. -/
theorem wr_shape {f : Fm} (hw : Wf f) (hr : Rt f) : ∃ a b c r, wrF f = a :: b :: c :: 35 :: r ∧ isHex a ∧ isHex b ∧ isHex c ∧ (hexV a * 16 + hexV b) * 16 + hexV c = f.id ∧
    ((f.rem = true ∧ ∃ m : UInt8, r = [82, m] ∧ 48 ≤ m.toNat ∧ m.toNat ≤ 56) ∨ (f.rem = false ∧ r.length = 2 * f.len.toNat ∧ f.len.toNat ≤ 8 ∧ ∀ b ∈ r, isHex b)) := by
  obtain ⟨h1, h2, h3, _⟩ := hr
  have h0 := hw.i0
  refine ⟨digC (f.id / 256), digC (f.id / 16 % 16), digC (f.id % 16), (if f.rem then [82, digC f.len] else pairs (f.d.take f.len.toNat)), rfl, isHex_digC (by omega) (by omega), isHex_digC (by omega) (by omega), isHex_digC (by omega) (by omega), ?_, ?_⟩
  · rw [hexV_digC (by omega) (by omega), hexV_digC (by omega) (by omega), hexV_digC (by omega) (by omega)]
    omega
  · rcases hre : f.rem with _ | _
    · refine .inr ⟨rfl, ?_, by omega, ?_⟩
      · simp only [Bool.false_eq_true, if_false, pairs_len, List.length_take, hw.dl]
        omega
      · simp only [Bool.false_eq_true, if_false]
        exact pairs_hex _ fun x hx => hw.db x (List.mem_of_mem_take hx)
    · refine .inl ⟨rfl, digC f.len, rfl, ?_⟩
      have h : ∀ k : Nat, k ≤ 8 → 48 ≤ (digC k).toNat ∧ (digC k).toNat ≤ 56 := by decide
      obtain ⟨k, hk⟩ := Int.eq_ofNat_of_zero_le h2
      rw [hk]
      exact h k (by omega)
/-- The frame that a text could be. -/
def guessF (s : List UInt8) : Fm :=
  if s.length = 6 ∧ s[4]?.getD 0 = 82 then ⟨(vz (s[0]?.getD 0) * 16 + vz (s[1]?.getD 0)) * 16 + vz (s[2]?.getD 0), vz (s[5]?.getD 0), [0, 0, 0, 0, 0, 0, 0, 0], true⟩
  else ⟨(vz (s[0]?.getD 0) * 16 + vz (s[1]?.getD 0)) * 16 + vz (s[2]?.getD 0), (s.length - 4) / 2, (List.range 8).map (fun i => if i < (s.length - 4) / 2 then vz (s[4 + 2 * i]?.getD 0) * 16 + vz (s[5 + 2 * i]?.getD 0) else 0), false⟩
theorem pairs_get : ∀ (l : List Int) (i : Nat) (h : i < l.length), (pairs l)[2 * i]? = some (digC (l[i] / 16)) ∧ (pairs l)[2 * i + 1]? = some (digC (l[i] % 16))
  | [], i, h => by simp at h
  | x :: l, 0, h => by simp [pairs]
  | x :: l, i + 1, h => by
    have := pairs_get l i (by simpa using h)
    rw [show 2 * (i + 1) = 2 * i + 1 + 1 by omega]
    simpa [pairs] using this
theorem guess_of {f : Fm} (hw : Wf f) (hr : Rt f) : guessF (wrF f) = f ∧ 4 ≤ (wrF f).length ∧ (wrF f).length ≤ 20 := by
  obtain ⟨h1, h2, h3, hz⟩ := hr
  obtain ⟨hdl, hdb, h0⟩ := hw
  obtain ⟨id, len, d, rem⟩ := f
  simp only at h1 h2 h3 hz hdl hdb h0
  have e1 : (vz (digC (id / 256)) * 16 + vz (digC (id / 16 % 16))) * 16 + vz (digC (id % 16)) = id := by
    rw [vz_digC (by omega) (by omega), vz_digC (by omega) (by omega), vz_digC (by omega) (by omega)]
    omega
  rcases rem with _ | _
  · obtain ⟨n, hn⟩ := Int.eq_ofNat_of_zero_le h2
    subst hn
    have hlen : (wrF ⟨id, n, d, false⟩).length = 4 + 2 * n := by
      simp only [wrF, Bool.false_eq_true, if_false, List.length_append, pairs_len, List.length_take, hdl, List.length_cons, List.length_nil, Int.toNat_natCast]
      omega
    have hget : ∀ i, i < n → (wrF ⟨id, n, d, false⟩)[4 + 2 * i]?.getD 0 = digC (d[i]?.getD 0 / 16) ∧ (wrF ⟨id, n, d, false⟩)[5 + 2 * i]?.getD 0 = digC (d[i]?.getD 0 % 16) := by
      intro i hi
      have hp := pairs_get (d.take n) i (by simp [hdl]; omega)
      simp only [List.getElem_take] at hp
      have hg : d[i]?.getD 0 = d[i]'(by omega) := by rw [List.getElem?_eq_getElem (by omega)]; rfl
      have hd : ∀ j, (wrF ⟨id, n, d, false⟩)[4 + j]? = (pairs (d.take n))[j]? := by
        intro j
        simp only [wrF, Bool.false_eq_true, if_false, Int.toNat_natCast]
        rw [List.getElem?_append_right (by simp)]
        simp
      rw [show 5 + 2 * i = 4 + (2 * i + 1) by omega, hd, hd, hp.1, hp.2, hg]
      exact ⟨rfl, rfl⟩
    have hno : ¬ ((wrF ⟨id, n, d, false⟩).length = 6 ∧ (wrF ⟨id, n, d, false⟩)[4]?.getD 0 = 82) := by
      rintro ⟨ha, hb⟩
      have hn1 : n = 1 := by omega
      have := (hget 0 (by omega)).1
      rw [show 4 + 2 * 0 = 4 from rfl, hb] at this
      have hx : (0 : Int) ≤ d[0]?.getD 0 ∧ d[0]?.getD 0 < 256 := by
        rw [List.getElem?_eq_getElem (show 0 < d.length by omega)]
        exact hdb _ (List.getElem_mem _)
      exact (digC_ne (n := d[0]?.getD 0 / 16) (by omega) (by omega)).1 this.symm
    refine ⟨?_, by omega, by omega⟩
    unfold guessF
    rw [if_neg hno]
    have hn2 : ((wrF ⟨id, n, d, false⟩).length - 4) / 2 = n := by omega
    have hn3 : (((wrF ⟨id, n, d, false⟩).length : Int) - 4) / 2 = n := by omega
    have hgd : (List.range 8).map (fun i => if i < ((wrF ⟨id, n, d, false⟩).length - 4) / 2 then vz ((wrF ⟨id, n, d, false⟩)[4 + 2 * i]?.getD 0) * 16 + vz ((wrF ⟨id, n, d, false⟩)[5 + 2 * i]?.getD 0) else 0) = d := by
      apply List.ext_getElem
      · simp [hdl]
      · intro i hi1 hi2
        simp only [List.getElem_map, List.getElem_range, hn2]
        have hg : d[i]?.getD 0 = d[i]'hi2 := by rw [List.getElem?_eq_getElem hi2]; rfl
        have hx := hdb _ (List.getElem_mem hi2)
        split
        · rename_i hlt
          rw [(hget i hlt).1, (hget i hlt).2, hg, vz_digC (by omega) (by omega), vz_digC (by omega) (by omega)]
          omega
        · rename_i hlt
          have := hz i (by omega)
          rw [hg] at this
          rcases this with h | ⟨h, _⟩
          · exact h.symm
          · omega
    rw [hgd, hn3]
    simp only [wrF, List.cons_append, List.nil_append, List.getElem?_cons_zero, List.getElem?_cons_succ, Option.getD_some]
    rw [e1]
  · have hd : d = [0, 0, 0, 0, 0, 0, 0, 0] := by
      apply List.ext_getElem
      · simp [hdl]
      · intro i hi1 hi2
        have := hz i (by omega)
        rw [List.getElem?_eq_getElem hi1] at this
        rcases this with h | ⟨_, h⟩
        · have hc : ∀ i (h : i < 8), ([0, 0, 0, 0, 0, 0, 0, 0] : List Int)[i]'h = 0 := by decide
          rw [hc i (by omega)]
          exact h
        · simp at h
    subst hd
    refine ⟨?_, by simp [wrF], by simp [wrF]⟩
    simp only [guessF, wrF, if_true, List.cons_append, List.nil_append, List.length_cons, List.length_nil, List.getElem?_cons_zero, List.getElem?_cons_succ, Option.getD_some, and_self]
    rw [e1, vz_digC h2 (by omega)]
theorem wr_inj {f g : Fm} (hf : Wf f) (kf : Rt f) (hg : Wf g) (kg : Rt g) (h : wrF f = wrF g) : f = g := by
  rw [← (guess_of hf kf).1, ← (guess_of hg kg).1, h]
/-- What a text is read as: the right frame that is written so, or none. -/
def Reads (s : List UInt8) (f : Fm) (e : Int) : Prop := (Wf f ∧ Rt f ∧ wrF f = s ∧ e = 0) ∨ ((∀ g, Wf g → Rt g → wrF g ≠ s) ∧ f = fm0 ∧ e = 30)
theorem reads_one {s : List UInt8} {f g : Fm} {e k : Int} (h1 : Reads s f e) (h2 : Reads s g k) : f = g ∧ e = k := by
  rcases h1 with ⟨a, b, c, d⟩ | ⟨a, b, c⟩ <;> rcases h2 with ⟨a', b', c', d'⟩ | ⟨a', b', c'⟩
  · exact ⟨wr_inj a b a' b' (c.trans c'.symm), d.trans d'.symm⟩
  · exact absurd c (a' f a b)
  · exact absurd c' (a g a' b')
  · exact ⟨b.trans b'.symm, c.trans c'.symm⟩
/-- The numbers of digits in twos. -/
def dec : List UInt8 → List Int
  | a :: b :: r => numU [a, b] :: dec r
  | _ => []
theorem dec_pairs : ∀ (n : Nat) (r : List UInt8), r.length = 2 * n → (∀ b ∈ r, isHex b) → pairs (dec r) = r ∧ (dec r).length = n ∧ ∀ x ∈ dec r, 0 ≤ x ∧ x < 256
  | 0, r, h, _ => by
    have : r = [] := by simpa using h
    subst this
    simp [dec, pairs]
  | n + 1, r, h, hx => by
    match r, h, hx with
    | a :: b :: r, h, hx =>
      have ha := hx a (by simp)
      have hb := hx b (by simp)
      have h1 := digC_hexV ha
      have h2 := digC_hexV hb
      have h3 : 0 ≤ hexV a := ha
      have h4 : 0 ≤ hexV b := hb
      have ih := dec_pairs n r (by simp at h; omega) (fun y hy => hx y (by simp [hy]))
      rw [dec, num2 ha hb, pairs, show (hexV a * 16 + hexV b) / 16 = hexV a by omega, show (hexV a * 16 + hexV b) % 16 = hexV b by omega, h1.2, h2.2, ih.1]
      refine ⟨rfl, by simp [ih.2.1], ?_⟩
      intro x hxm
      rcases List.mem_cons.mp hxm with rfl | h
      · omega
      · exact ih.2.2 x h
    | [a], h, _ => simp at h; omega
    | [], h, _ => simp at h
theorem head_wr {a b c : UInt8} (ha : isHex a) (hb : isHex b) (hc : isHex c) :
    0 ≤ numU [a, b, c] ∧ digC (numU [a, b, c] / 256) = a ∧ digC (numU [a, b, c] / 16 % 16) = b ∧ digC (numU [a, b, c] % 16) = c := by
  have h1 := digC_hexV ha
  have h2 := digC_hexV hb
  have h3 := digC_hexV hc
  have h4 : 0 ≤ hexV a := ha
  have h5 : 0 ≤ hexV b := hb
  have h6 : 0 ≤ hexV c := hc
  rw [num3 ha hb hc]
  rw [show ((hexV a * 16 + hexV b) * 16 + hexV c) / 256 = hexV a by omega, show ((hexV a * 16 + hexV b) * 16 + hexV c) / 16 % 16 = hexV b by omega, show ((hexV a * 16 + hexV b) * 16 + hexV c) % 16 = hexV c by omega]
  exact ⟨by omega, h1.2, h2.2, h3.2⟩
/-- A text of an asking frame. -/
theorem reads_ask {a b c m : UInt8} (ha : isHex a) (hb : isHex b) (hc : isHex c) (h : numU [a, b, c] ≤ 2047) (h1 : 48 ≤ m.toNat) (h2 : m.toNat ≤ 56) :
    Reads [a, b, c, 35, 82, m] ⟨numU [a, b, c], (m.toNat : Int) - 48, [0, 0, 0, 0, 0, 0, 0, 0], true⟩ 0 := by
  obtain ⟨g0, g1, g2, g3⟩ := head_wr ha hb hc
  refine .inl ⟨⟨rfl, by simp, g0⟩, ⟨h, by simp only; omega, by simp only; omega, ?_⟩, ?_, rfl⟩
  · have hc : ∀ i : Nat, i < 8 → ([0, 0, 0, 0, 0, 0, 0, 0] : List Int)[i]?.getD 0 = 0 := by decide
    exact fun i hi => .inl (hc i hi)
  · have hm : ∀ k : Nat, 48 ≤ k → k ≤ 56 → digC ((k : Int) - 48) = k.toUInt8 := by
      intro k hk1 hk2
      have : ∀ j : Nat, j < 9 → digC (((j + 48 : Nat) : Int) - 48) = (j + 48).toUInt8 := by decide
      have := this (k - 48) (by omega)
      rwa [show k - 48 + 48 = k by omega] at this
    have := hm m.toNat h1 h2
    rw [show m.toNat.toUInt8 = m by simp] at this
    simp only [wrF, if_true, g1, g2, g3, this, List.cons_append, List.nil_append]
/-- A text of a frame with bytes. -/
theorem reads_data {a b c : UInt8} {r : List UInt8} {n : Nat} (ha : isHex a) (hb : isHex b) (hc : isHex c) (h : numU [a, b, c] ≤ 2047) (hr : r.length = 2 * n) (hn : n ≤ 8) (hx : ∀ b ∈ r, isHex b) :
    Reads (a :: b :: c :: 35 :: r) ⟨numU [a, b, c], n, dec r ++ List.replicate (8 - n) 0, false⟩ 0 := by
  obtain ⟨g0, g1, g2, g3⟩ := head_wr ha hb hc
  obtain ⟨d1, d2, d3⟩ := dec_pairs n r hr hx
  refine .inl ⟨⟨by simp [d2]; omega, ?_, g0⟩, ⟨h, by simp only; omega, by simp only; omega, ?_⟩, ?_, rfl⟩
  · intro x hx
    rcases List.mem_append.mp hx with h | h
    · exact d3 x h
    · have := List.eq_of_mem_replicate h
      omega
  · intro i _
    by_cases hlt : i < n
    · exact .inr ⟨by simp only; omega, rfl⟩
    · refine .inl ?_
      simp only
      rw [List.getElem?_append_right (by omega), d2, List.getElem?_replicate]
      split <;> rfl
  · simp only [wrF, g1, g2, g3, Bool.false_eq_true, if_false, Int.toNat_natCast, List.cons_append, List.nil_append]
    rw [List.take_left' d2, d1]
/-- Texts that are none. -/
theorem reads_none {s : List UInt8} (h : ∀ g, Wf g → Rt g → wrF g ≠ s) : Reads s fm0 30 := .inr ⟨h, rfl, rfl⟩
end Go.Proofs.YtmgabmcfgnlpfaaDoor.Frm
