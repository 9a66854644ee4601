/- The plain laws of CompactBack: settings and bytes, there and back. -/
import Derived.Test.YteflphhdafhapaaCwr
namespace Go.Proofs.Yteflphhdafhapaa.Rng
open Go.RowKit Go.Shelf Go.Proofs.YteflphhdafhapaaW.PrintWords Go.Proofs.YteflphhdafhapaaW.PrintMore Go.Proofs.YteflphhdafhapaaW.PrintLast

theorem numL_succ (x : Int) (m : Nat) : numL x (m + 1) = (x % 256) :: numL (x / 256) m := by
  unfold numL
  rw [List.range_succ_eq_map, List.map_cons, List.map_map]
  congr 1
  · simp [dig]
  · apply List.map_congr_left
    intro i _
    show x / 2 ^ (8 * (i + 1)) % 256 = x / 256 / 2 ^ (8 * i) % 256
    rw [show 8 * (i + 1) = 8 + 8 * i by omega, Int.pow_add, Int.ediv_ediv_of_nonneg (by decide)]
    rfl
theorem val_numL : ∀ (m : Nat) (x : Int), 0 ≤ x → x < ((256 ^ m : Nat) : Int) → val (numL x m) = x
  | 0, x, h0, h1 => by
    have : x = 0 := by simp at h1; omega
    subst this
    rfl
  | m + 1, x, h0, h1 => by
    rw [numL_succ, val, val_numL m (x / 256) (by omega) (by rw [Nat.pow_succ] at h1; omega)]
    omega
theorem numL_val : ∀ zs : List Int, Bytes zs → numL (val zs) zs.length = zs
  | [], _ => rfl
  | x :: r, h => by
    have hx := h x List.mem_cons_self
    rw [List.length_cons, numL_succ, val, show (x + 256 * val r) % 256 = x by omega, show (x + 256 * val r) / 256 = val r by omega, numL_val r (fun y hy => h y (List.mem_cons_of_mem _ hy))]
theorem numL_bytes (x : Int) (m : Nat) : Bytes (numL x m) := by
  intro y hy
  obtain ⟨i, _, rfl⟩ := List.mem_map.1 hy
  unfold dig
  omega
/-- A setting whose numbers fit. -/
def Fit (x : Sg) : Prop := 0 ≤ x.1.1 ∧ x.1.1 < 65536 ∧ 0 ≤ x.1.2 ∧ x.1.2 < 256
/-- The seven bytes ahead of a setting's own. -/
def head7 (x : Sg) : List Int := numL x.1.1 2 ++ [x.1.2] ++ numL x.2.length 4
theorem head7_length (x : Sg) : (head7 x).length = 7 := by simp [head7, numL_length]
theorem wOne_fit {x : Sg} (h : Fit x) : wOne x = head7 x ++ x.2 := by
  unfold wOne head7
  rw [i64_w, w64 x.1.1 h.1 (by have := h.2.1; omega)]
theorem wK_split (l : List Sg) (k : Nat) (h : k < l.length) : ∃ rest, wK l l.length = wK l k ++ (wOne (l[k]?.getD zSg) ++ rest) := by
  refine ⟨(l.drop (k + 1)).flatMap wOne, ?_⟩
  unfold wK
  rw [List.take_length, List.append_assoc, ← List.flatMap_cons, List.getElem?_eq_getElem h, Option.getD_some, ← List.flatMap_append]
  congr 2
  rw [← List.drop_eq_getElem_cons h, List.take_append_drop]
theorem cutmid (a b c : List Int) (p q : Nat) (hp : a.length = p) (hq : b.length = q) : ((a ++ (b ++ c)).take (p + q)).drop p = b := by
  subst hp hq
  rw [List.take_append, List.take_of_length_le (by omega), List.drop_append_of_le_length (Nat.le_refl _), List.drop_length, List.nil_append, Nat.add_sub_cancel_left, List.take_append, List.take_length, Nat.sub_self, List.take_zero, List.append_nil]
theorem at_set (l : List Sg) (k : Nat) (h : k < l.length) (hf : Fit (l[k]?.getD zSg)) (hb : bLen l k ≤ 4096) :
    hd7 (wK l l.length) (wLen l k) = head7 (l[k]?.getD zSg) ∧ szAt (wK l l.length) (wLen l k) = bLen l k ∧ sgAt (wK l l.length) (wLen l k) = l[k]?.getD zSg ∧ wLen l k + 7 + bLen l k ≤ (wK l l.length).length := by
  obtain ⟨rest, hr⟩ := wK_split l k h
  obtain ⟨x, hx⟩ : ∃ x, l[k]?.getD zSg = x := ⟨_, rfl⟩
  rw [hx] at hr hf ⊢
  have hbl : bLen l k = x.2.length := by unfold bLen; rw [hx]
  rw [wOne_fit hf, List.append_assoc] at hr
  have hpl : (wK l k).length = wLen l k := rfl
  have h7 : hd7 (wK l l.length) (wLen l k) = head7 x := by
    unfold hd7
    rw [hr]
    exact cutmid _ _ _ _ 7 hpl (head7_length x)
  have hsz : szAt (wK l l.length) (wLen l k) = bLen l k := by
    unfold szAt
    rw [h7, head7, List.drop_append, List.drop_of_length_le (by simp [numL_length]), List.nil_append]
    rw [show (3 - (numL x.1.1 2 ++ [x.1.2]).length) = 0 by simp [numL_length], List.drop_zero, val_numL 4 _ (by omega) (by rw [hbl] at hb; omega), hbl, Int.toNat_natCast]
  refine ⟨h7, hsz, ?_, ?_⟩
  · unfold sgAt
    rw [hsz, h7]
    have e1 : (head7 x).take 2 = numL x.1.1 2 := by
      rw [head7, List.append_assoc, List.take_append, List.take_of_length_le (by simp [numL_length]), numL_length, Nat.sub_self, List.take_zero, List.append_nil]
    have e2 : (head7 x)[2]?.getD 0 = x.1.2 := by
      rw [head7, List.append_assoc, List.getElem?_append_right (by simp [numL_length]), numL_length]
      rfl
    have e3 : dataOf (wK l l.length) (wLen l k + 7) (bLen l k) = x.2 := by
      unfold dataOf
      rw [hr, ← List.append_assoc]
      exact cutmid _ _ _ _ _ (by rw [List.length_append, head7_length, hpl]) hbl.symm
    rw [e1, e2, e3, val_numL 2 _ hf.1 (by have := hf.2.1; simpa using this)]
    have e4 : IntKind.u16.wrap x.1.1 = x.1.1 := by
      have h1 := hf.1
      have h2 := hf.2.1
      rw [IntKind.wrap_u16]; omega
    rw [e4]
  · rw [hr, List.length_append, List.length_append, List.length_append, head7_length, hpl, hbl]
    omega
theorem posK_w (l : List Sg) (hf : ∀ k, k < l.length → Fit (l[k]?.getD zSg) ∧ bLen l k ≤ 4096) : ∀ k, k ≤ l.length → posK (wK l l.length) k = wLen l k
  | 0, _ => by simp [posK, wLen, wK, numL_length]
  | k + 1, h => by
    obtain ⟨_, h2, _, _⟩ := at_set l k (by omega) (hf k (by omega)).1 (hf k (by omega)).2
    rw [posK, posK_w l hf k (by omega), h2]
    unfold wLen bLen
    rw [wK_succ l k (by omega), List.length_append, wOne_length]
    omega
theorem parsed_w (l : List Sg) (hf : ∀ k, k < l.length → Fit (l[k]?.getD zSg) ∧ bLen l k ≤ 4096) : ∀ k, k ≤ l.length → parsed (wK l l.length) k = l.take k
  | 0, _ => rfl
  | k + 1, h => by
    obtain ⟨_, _, h3, _⟩ := at_set l k (by omega) (hf k (by omega)).1 (hf k (by omega)).2
    rw [parsed, parsed_w l hf k (by omega), posK_w l hf k (by omega), h3, List.take_add_one, List.getElem?_eq_getElem (by omega)]
    rfl
/-- What was written is read. -/
theorem back_one (l : List Sg) (hs : sumB l l.length ≤ 6000) (hfit : ∀ k, k < l.length → Fit (l[k]?.getD zSg)) (hg : ∀ j, j < l.length → ¬ big l j) {r1 : List Sg} {r2 r3 : Int} (h : PSaid (wK l l.length) r1 r2 r3) : r1 = l ∧ r2 = 0 ∧ r3 = 0 := by
  have hf : ∀ k, k < l.length → Fit (l[k]?.getD zSg) ∧ bLen l k ≤ 4096 := fun k hk => ⟨hfit k hk, by have := hg k hk; unfold big at this; omega⟩
  have hll := sumB_le l l.length 0 (by omega)
  have hw : (wK l l.length).length ≤ 4 + 7 * sumB l l.length := wLen_bound l l.length (Nat.le_refl _)
  have h4 : 4 ≤ (wK l l.length).length := by unfold wK; rw [List.length_append, numL_length]; omega
  have hc : cntAt (wK l l.length) = l.length := by
    unfold cntAt wK
    rw [List.take_append, List.take_of_length_le (by rw [numL_length]; omega), numL_length, Nat.sub_self, List.take_zero, List.append_nil, val_numL 4 _ (by omega) (by simp; omega), Int.toNat_natCast]
  have hpn : posK (wK l l.length) l.length = (wK l l.length).length := posK_w l hf l.length (Nat.le_refl _)
  rcases h with ⟨h, _⟩ | ⟨h, _⟩ | ⟨_, _, K, hK, hok, h⟩
  · omega
  · omega
  · rw [hc] at hK h
    rcases h with ⟨(⟨h, h'⟩ | ⟨h, h'⟩), _⟩ | ⟨h, _, e1, e2, e3⟩
    · obtain ⟨_, g2, _, g4⟩ := at_set l K h (hf K h).1 (hf K h).2
      have hb := (hf K h).2
      rw [posK_w l hf K (by omega)] at h'
      unfold okAt at h'
      rw [g2] at h'
      simp at h'
      omega
    · subst h
      omega
    · subst h
      exact ⟨by rw [e1, parsed_w l hf _ (Nat.le_refl _), List.take_length], e2, e3⟩

theorem parsed_get (zs : List Int) : ∀ k j, j < k → (parsed zs k)[j]?.getD zSg = sgAt zs (posK zs j)
  | 0, j, h => by omega
  | k + 1, j, h => by
    rw [parsed]
    rcases Nat.lt_or_eq_of_le (Nat.le_of_lt_succ h) with h | rfl
    · rw [List.getElem?_append_left (by rw [parsed_length]; exact h)]
      exact parsed_get zs k j h
    · rw [List.getElem?_append_right (by rw [parsed_length]; omega), parsed_length, Nat.sub_self]
      rfl
theorem data_length {zs : List Int} {p m : Nat} (h : p + m ≤ zs.length) : (dataOf zs p m).length = m := by simp [dataOf]; omega
theorem one_back {zs : List Int} (hB : Bytes zs) {p : Nat} (hok : okAt zs p = true) : wOne (sgAt zs p) = (zs.take (p + 7 + szAt zs p)).drop p := by
  obtain ⟨h1, h2, h3⟩ := okAt_spec hok
  have hl7 := hd7_length h1
  have hB7 := hd7_bytes hB p
  have hv2 := val_bound _ (hB7.take_ 2)
  have hl2 : ((hd7 zs p).take 2).length = 2 := by rw [List.length_take]; omega
  have hl4 : ((hd7 zs p).drop 3).length = 4 := by rw [List.length_drop]; omega
  rw [hl2, show (256 ^ 2 : Nat) = 65536 by decide] at hv2
  have e0 : (sgAt zs p).1.1 = val ((hd7 zs p).take 2) := by
    show IntKind.u16.wrap (val ((hd7 zs p).take 2)) = _
    rw [IntKind.wrap_u16]; omega
  have e1 : numL (IntKind.i64.wrap (sgAt zs p).1.1) 2 = (hd7 zs p).take 2 := by
    rw [e0, i64_w, w64 _ hv2.1 (by omega)]
    have := numL_val _ (hB7.take_ 2)
    rwa [hl2] at this
  have e2 : numL (((sgAt zs p).2.length : Nat) : Int) 4 = (hd7 zs p).drop 3 := by
    have e : (sgAt zs p).2.length = szAt zs p := data_length h3
    rw [e, ← szAt_val hB]
    have := numL_val _ (hB7.drop_ 3)
    rwa [hl4] at this
  have e3 : (hd7 zs p).take 2 ++ [(hd7 zs p)[2]?.getD 0] ++ (hd7 zs p).drop 3 = hd7 zs p := by
    rw [List.getElem?_eq_getElem (by omega), Option.getD_some, List.append_assoc, List.singleton_append, ← List.drop_eq_getElem_cons (by omega), List.take_append_drop]
  unfold wOne
  rw [e1, e2]
  show (hd7 zs p).take 2 ++ [(hd7 zs p)[2]?.getD 0] ++ (hd7 zs p).drop 3 ++ dataOf zs (p + 7) (szAt zs p) = _
  rw [e3]
  unfold hd7 dataOf
  rw [← List.take_append_drop 7 ((zs.take (p + 7 + szAt zs p)).drop p)]
  congr 1
  · rw [List.take_drop, List.take_take, Nat.min_eq_left (by omega)]
  · rw [List.drop_drop]
theorem take_join (zs : List Int) (p m : Nat) : zs.take p ++ (zs.take (p + m)).drop p = zs.take (p + m) := by
  have h : zs.take p = (zs.take (p + m)).take p := by rw [List.take_take, Nat.min_eq_left (by omega)]
  rw [h, List.take_append_drop]
theorem back_at {zs : List Int} (hB : Bytes zs) (h4 : 4 ≤ zs.length) (K : Nat) (hc : K = cntAt zs) (hok : ∀ k, k < K → okAt zs (posK zs k) = true) : ∀ k, k ≤ K → numL (K : Int) 4 ++ (parsed zs k).flatMap wOne = zs.take (posK zs k)
  | 0, _ => by
    have h := numL_val _ (hB.take_ 4)
    rw [(val4 hB h4).1, show (zs.take 4).length = 4 by simp; omega, ← hc] at h
    simpa [parsed, posK] using h
  | k + 1, h => by
    have hk := hok k (by omega)
    have hp := posK_le hok h4 k (by omega)
    have ih := back_at hB h4 K hc hok k (by omega)
    rw [parsed, List.flatMap_append, ← List.append_assoc, ih]
    simp only [List.flatMap_cons, List.flatMap_nil, List.append_nil]
    rw [one_back hB hk, posK, Nat.add_assoc]
    exact take_join zs (posK zs k) (7 + szAt zs (posK zs k))
theorem sumB_snoc (l : List Sg) (x : Sg) : sumB (l ++ [x]) (l ++ [x]).length = sumB l l.length + 1 + x.2.length := by
  unfold sumB
  rw [List.take_length, List.take_length, List.foldl_append]
  rfl
theorem sumB_parsed {zs : List Int} {K : Nat} (hok : ∀ k, k < K → okAt zs (posK zs k) = true) : ∀ k, k ≤ K → sumB (parsed zs k) (parsed zs k).length ≤ posK zs k
  | 0, _ => Nat.zero_le _
  | k + 1, h => by
    have ih := sumB_parsed hok k (by omega)
    have hd : (sgAt zs (posK zs k)).2.length = szAt zs (posK zs k) := data_length (okAt_spec (hok k (by omega))).2.2
    rw [parsed, sumB_snoc, hd, posK]
    omega
/-- What was read is written. -/
theorem back_two {zs : List Int} (hB : Bytes zs) (hl : zs.length ≤ 6000) {r1 : List Sg} {r2 r3 : Int} (h : PSaid zs r1 r2 r3) :
    (r2 = 230 ∧ r1 = [] ∧ 0 ≤ r3 ∧ r3 ≤ zs.length) ∨ (r2 = 0 ∧ r3 = 0 ∧ sumB r1 r1.length ≤ 6000 ∧ ∀ s1 s2, wTold r1 s1 s2 → s1 = zs ∧ s2 = 0) := by
  rcases h with ⟨h, _⟩ | ⟨h, e1, e2, e3⟩ | ⟨h4, _, K, hK, hok, h⟩
  · omega
  · exact .inl ⟨e2, e1, by omega, by omega⟩
  · rcases h with ⟨_, e1, e2, e3⟩ | ⟨hKc, hnl, e1, e2, e3⟩
    · have := posK_le hok h4 K (Nat.le_refl _)
      exact .inl ⟨e2, e1, by omega, by omega⟩
    · have hp := posK_le hok h4 K (Nat.le_refl _)
      have hs := sumB_parsed hok K (Nat.le_refl _)
      subst e1
      refine .inr ⟨e2, e3, by omega, fun s1 s2 ht => ?_⟩
      have hg : ∀ j, j < (parsed zs K).length → ¬ big (parsed zs K) j := by
        intro j hj
        rw [parsed_length] at hj
        obtain ⟨_, h2, h3⟩ := okAt_spec (hok j hj)
        unfold big bLen
        rw [parsed_get zs K j hj]
        have hd : (sgAt zs (posK zs j)).2.length = szAt zs (posK zs j) := data_length h3
        omega
      rcases ht with ⟨⟨j, hj, hb⟩, _⟩ | ⟨_, h1, h2⟩
      · exact absurd hb (hg j hj)
      · refine ⟨?_, h2⟩
        rw [h1]
        unfold wK
        rw [List.take_length, parsed_length, back_at hB h4 K hKc hok K (Nat.le_refl _)]
        exact List.take_of_length_le (by omega)
end Go.Proofs.Yteflphhdafhapaa.Rng
