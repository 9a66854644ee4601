/- mapping.Unpack: the values' blocks. Rows of values for places, as arguments; a dictionary beside a store into another one. Two dictionaries, either of which is written: what stays. MappingWrites, walked. -/
import Derived.Test.YtokebpeplopjhaaDoorY12
import Derived.Lib.ConvBytes
import Derived.Deep.RegionHeld3
namespace Go.Proofs.YtokebpeplopjhaaDoor.Mp
open Go.RowKit Go.Shelf Go.Proofs.YtokebpeplopjhaaDoor.Rng Go.Proofs.YtokebpeplopjhaaDoorW.PrintWords Go.Proofs.YtokebpeplopjhaaDoorW.PrintMore Go.Proofs.YtokebpeplopjhaaDoorW.PrintLast

/-- Three cells, raw. -/
def kR : Kd (List Value) where
  sz := 3
  E := []
  K _ x cs := cs = x ∧ x.length = 3 ∧ ∀ u ∈ x, u.oneCell' = true
  M _ _ _ x cs := cs = x ∧ x.length = 3 ∧ ∀ u ∈ x, u.oneCell' = true
  K_len := fun h => h.1 ▸ h.2.1
  K_one := fun h => h.1 ▸ h.2.2
  K_below := fun _ h => h
  K_of_M := fun h => h
  M_mono := fun _ h => h
  M_bound := fun h => h
  M_move := fun _ h => h
  M_lower := fun _ h => h
/-- These cells are these values, each in a block of its own, the blocks rising. -/
def VRw (W : World) (base : Nat) (rs : List (List Value)) (acc : List Vl) : Prop := rs.length = acc.length ∧ ∃ gs : Nat → Nat, (∀ i j, i < j → j < acc.length → gs i < gs j) ∧ ∀ i x, acc[i]? = some x → rs[i]? = some [.int .u16 x.1.1, .int .u8 x.1.2, .slice (some ⟨gs i, 0, none⟩) x.2.length x.2.length] ∧ Num.RowB W (gs i) x.2 ∧ base ≤ gs i
/-- A row of them. -/
def RV (W : World) (base : Nat) (v : Value) (acc : List Vl) : Prop := ∃ rs, Kd.R kR 36 W base (fun _ => True) v rs ∧ VRw W base rs acc
theorem VRw.fr {M : Nat → Prop} {w W : World} {base : Nat} {rs : List (List Value)} {acc : List Vl} (h : VRw w base rs acc) (hf : Fr M w W) (hM : ∀ k, base ≤ k → ¬ M k) : VRw W base rs acc := by
  obtain ⟨h1, gs, h2, h3⟩ := h
  refine ⟨h1, gs, h2, fun i x hx => ?_⟩
  obtain ⟨q1, q2, q3⟩ := h3 i x hx
  exact ⟨q1, (hf.block _ (blk_lt q2) (hM _ q3)).trans q2, q3⟩
theorem VRw.below {w W : World} {base : Nat} {rs : List (List Value)} {acc : List Vl} (h : VRw w base rs acc) (hb : Below w.heap.size w W) : VRw W base rs acc :=
  h.fr (M := fun _ => False) (Fr.of_below hb) (fun _ _ => id)
def RVs (W : World) (base : Nat) (v : Value) (rs : List (List Value)) (acc : List Vl) : Prop := Kd.R kR 36 W base (fun _ => True) v rs ∧ VRw W base rs acc
theorem RVs.below {w W : World} {base : Nat} {v : Value} {rs : List (List Value)} {acc : List Vl} (h : RVs w base v rs acc) (hb : Below w.heap.size w W) : RVs W base v rs acc := ⟨Kd.R_below h.1 hb, h.2.below hb⟩
theorem RVs.fr {M : Nat → Prop} {w W : World} {base : Nat} {v : Value} {rs : List (List Value)} {acc : List Vl} (h : RVs w base v rs acc) (hf : Fr M w W) (hM : ∀ k, base ≤ k → ¬ M k) : RVs W base v rs acc := ⟨R_fr h.1 hf hM, h.2.fr hf hM⟩
theorem RVs.nil (w : World) (base : Nat) : RVs w base (.slice none 0 0) [] [] := ⟨Kd.R_nil _ _ _ _ _, rfl, fun _ => 0, fun i j _ h => by simp at h, fun i x h => by simp at h⟩
theorem RV.below {w W : World} {base : Nat} {v : Value} {acc : List Vl} (h : RV w base v acc) (hb : Below w.heap.size w W) : RV W base v acc := by
  obtain ⟨rs, h1, h2⟩ := h
  exact ⟨rs, Kd.R_below h1 hb, h2.below hb⟩
theorem RV.fr {M : Nat → Prop} {w W : World} {base : Nat} {v : Value} {acc : List Vl} (h : RV w base v acc) (hf : Fr M w W) (hM : ∀ k, base ≤ k → ¬ M k) : RV W base v acc := by
  obtain ⟨rs, h1, h2⟩ := h
  exact ⟨rs, R_fr h1 hf hM, h2.fr hf hM⟩
theorem RV.nil (w : World) (base : Nat) : RV w base (.slice none 0 0) [] := ⟨[], Kd.R_nil _ _ _ _ _, rfl, fun _ => 0, fun i j _ h => by simp at h, fun i x h => by simp at h⟩
theorem RV.lt {w : World} {base : Nat} {v : Value} {acc : List Vl} (h : RV w base v acc) : ∀ k, v.ownBlock = some k → k < w.heap.size := by
  obtain ⟨rs, h1, -⟩ := h
  exact Kd.R_lt h1
theorem VRw.snoc {w : World} {base g n : Nat} {rs : List (List Value)} {acc : List Vl} {ix sub : Int} {zs : List Int} (h : VRw w base rs acc) {H : Nat} (hH : ∀ (i : Nat) (x : Vl) (gi : Nat), acc[i]? = some x → rs[i]? = some [.int .u16 x.1.1, .int .u8 x.1.2, .slice (some ⟨gi, 0, none⟩) x.2.length x.2.length] → gi < H) (hg : H ≤ g) (hr : Num.RowB w g zs) (hb : base ≤ g) (hn : zs.length = n) : VRw w base (rs ++ [[.int .u16 ix, .int .u8 sub, .slice (some ⟨g, 0, none⟩) n n]]) (acc ++ [((ix, sub), zs)]) := by
  obtain ⟨h1, gs, h2, h3⟩ := h
  subst hn
  refine ⟨by simp [h1], fun i => if i < acc.length then gs i else g, fun i j hij hj => ?_, fun i x hx => ?_⟩
  · have hj : j < acc.length + 1 := by simpa using hj
    by_cases hjl : j < acc.length
    · simp only [if_pos hjl, if_pos (Nat.lt_trans hij hjl)]
      exact h2 i j hij hjl
    · have hil : i < acc.length := by omega
      simp only [if_neg hjl, if_pos hil]
      obtain ⟨q1, -, -⟩ := h3 i _ (List.getElem?_eq_getElem hil)
      have := hH i _ _ (List.getElem?_eq_getElem hil) q1
      omega
  · by_cases hil : i < acc.length
    · rw [List.getElem?_append_left hil] at hx
      obtain ⟨q1, q2, q3⟩ := h3 i x hx
      simp only [if_pos hil]
      exact ⟨by rw [List.getElem?_append_left (by rw [h1]; exact hil)]; exact q1, q2, q3⟩
    · rw [List.getElem?_append_right (by omega)] at hx
      have hi0 : i - acc.length = 0 := by
        have := (List.getElem?_eq_some_iff.1 hx).1
        simp at this
        omega
      rw [hi0] at hx
      injection hx with hx
      subst hx
      simp only [if_neg hil]
      exact ⟨by rw [List.getElem?_append_right (by omega), h1, hi0]; rfl, hr, hb⟩
theorem VRw.lt {w : World} {base : Nat} {rs : List (List Value)} {acc : List Vl} (h : VRw w base rs acc) (i : Nat) (x : Vl) (gi : Nat) (hx : acc[i]? = some x) (hr : rs[i]? = some [.int .u16 x.1.1, .int .u8 x.1.2, .slice (some ⟨gi, 0, none⟩) x.2.length x.2.length]) : gi < w.heap.size := by
  obtain ⟨-, gs, -, h3⟩ := h
  obtain ⟨q1, q2, -⟩ := h3 i x hx
  rw [hr] at q1
  injection q1 with q1
  simp only [List.cons.injEq, Value.slice.injEq, Option.some.injEq, Addr.mk.injEq] at q1
  rw [q1.2.2.1.1.1]
  exact blk_lt q2
theorem VRw.grown {w W : World} {base b2 : Nat} {v : Value} {rs rs0 : List (List Value)} {acc : List Vl} (h : VRw w base rs acc) (hR : Kd.R kR 36 w b2 (fun _ => True) v rs0) (hg : w.grownBy W v.ownBlock) : VRw W base rs acc := by
  obtain ⟨h1, gs, h2, h3⟩ := h
  refine ⟨h1, gs, h2, fun i x hx => ?_⟩
  obtain ⟨q1, q2, q3⟩ := h3 i x hx
  refine ⟨q1, (hg.block _ (blk_lt q2) (fun e => ?_)).trans q2, q3⟩
  obtain ⟨-, -, -, q, hq, cells, hc⟩ := (Kd.R_bound hR).1 _ e.symm
  have hq : q = 36 := by simpa [kR] using hq
  unfold Num.RowB at q2
  rw [q2] at hc
  injection hc with hc
  injection hc with _ hc _
  rw [hq] at hc
  exact absurd hc (by decide)
/-- What Unpack tells, the values' blocks with it. -/
def UnpRaw (w : World) (r : List Vl × Int) (e : Ending) (w' : World) : Prop := ∃ v base, e = .returned (.tuple #[v, .int .u32 r.2]) ∧ w.heap.size ≤ base ∧ RV w' base v r.1 ∧ Below w.heap.size w w'
set_option maxRecDepth 100000 in
set_option maxHeartbeats 4000000 in
theorem unpack_raw (B : Nat) (v : Value) (o : Option DD) (l : List Mp) (A : Option Addr) (c : Nat) (Ab : Option Addr) (cb : Nat) (b : List Int) (w : World) (h : DictV B w v o) (ht : Tbl w) (hm : MsAt w A l) (hl : l.length ≤ 1000000) (hmw : ∀ m ∈ l, m.Wf) (hwf : ∀ i s, (findC o i s).1.Wf) (hb : Arg w Ab cb b) :
    Calls Tryd.prog 27 #[v, .slice A l.length c, .slice Ab b.length cb] w (UnpRaw w (unpackC o l b)) := by
  obtain ⟨r, hr⟩ : ∃ r, unpackC o l b = r := ⟨_, rfl⟩
  rw [hr]
  unfold unpackC at hr
  have hb0 : Below w.heap.size w (w.alloc (.cells #[.slice Ab b.length cb] 34)) := below_alloc (Below.refl _ _) _
  have HCK := Aside0.mk (mcheck_any B v o l A c false _ (h.below hb0) (ht.below hb0) (hm.below hb0) hl hmw hwf)
  have HD := Aside0.mk h
  have HT := Aside0.mk ht
  have HM := Aside0.mk hm
  have HMW := Aside0.mk hmw
  have HWF := Aside0.mk hwf
  have HBA := Aside0.mk hb
  have HB0 := Aside0.mk hb0
  have HBX := Aside0.mk (blk_new w (.cells #[.slice Ab b.length cb] 34))
  obtain ⟨q, hq⟩ : ∃ q, checkC o l false = q := ⟨_, rfl⟩
  rw [hq] at hr HCK
  obtain ⟨n, hn⟩ : ∃ n, l.length = n := ⟨_, rfl⟩
  have HN := Aside0.mk hn
  have HQ := Aside0.mk hq
  obtain ⟨nb, hnb⟩ : ∃ nb, b.length = nb := ⟨_, rfl⟩
  have HNB := Aside0.mk hnb
  clear h ht hm hmw hwf hb hb0 hq
  by_cases hq0 : q = 0
  · subst hq0
    rw [if_neg (by simp)] at hr
    have hall : (∀ m ∈ l, oneC o false m = 0) ∧ sumC l ≤ 64 := by
      have h0 := HQ.out
      unfold checkC at h0
      split at h0
      · simp at h0
      · exact check_all (by omega) h0
    have HALL := Aside0.mk hall
    have hbpos : ∀ m ∈ l, 0 ≤ m.bits := fun m hm => by have := one_bits (hall.1 m hm); omega
    have HSZ := Aside0.mk fun W (hW : Below w.heap.size w W) => msize_any l A c W (HM.out.below hW) (by omega) hbpos hall.2
    have HBP := Aside0.mk hbpos
    clear hall hbpos
    rw [hn] at HCK HSZ hl ⊢
    rw [hnb] at hr HCK HBX HB0 ⊢
    go_enter Tryd.func27, Tryd.ntmps27
    go_wp2_with (go_at_call 21; refine HCK.out.mono ?_; rintro e w1 ⟨rfl, hb1⟩; have HB1 := Aside0.mk (HB0.out.trans (hb1.mono (by simp))); have HBX1 := Aside0.mk (blk_below HBX.out hb1); clear hb1)
    have hS0 : Below w1.heap.size w1 w1 := Below.refl _ _
    have z0 : ∀ X, Below w1.heap.size w1 X → X.cell? ⟨w.heap.size, 0, none⟩ = some (.slice Ab nb cb) := fun X hX => pw_cell_below hX (blk_cell HBX1.out 0)
    go_region_held3 (fun X => Below w1.heap.size w1 X) (first | assumption | exact below_step (by assumption) (by assumption) | exact below_drew (by assumption))
      ((go_at_call 23; refine (HSZ.out _ (HB1.out.trans ((show Below w1.heap.size w1 _ by assumption).mono HB1.out.size))).mono ?_; rintro e w2 ⟨rfl, hb2⟩))
    have HB2 := Aside0.mk (HB1.out.trans ((show Below w1.heap.size w1 w2 by assumption).mono HB1.out.size))
    have HBX2 := Aside0.mk (blk_below HBX1.out (show Below w1.heap.size w1 w2 by assumption))
    by_cases hlen : nb < sizeC l
    · rw [if_pos hlen] at hr
      subst hr
      have hd : decide (nb < sizeC l) = true := decide_eq_true hlen
      go_wp2
      go_ret2
      exact ⟨_, w.heap.size, rfl, Nat.le_refl _, RV.nil _ _, HB2.out⟩
    · rw [if_neg hlen] at hr
      have hd : decide (nb < sizeC l) = false := decide_eq_false hlen
      have HR := Aside0.mk hr
      have HLEN := Aside0.mk hlen
      clear hr hS0 z0
      go_wp2
      rw [hd]
      clear hlen hd
      go_loopw [9, 31] (fun ov i wr => ∃ (k at_ : Nat) (acc : List Vl) (rs : List (List Value)), k ≤ n ∧ i = .int .i64 k ∧ Aside0 (unpA o b l 0 [] = unpA o b (l.drop k) at_ acc) ∧ Aside0 (sumC (l.take k) = at_ ∧ acc.length ≤ k) ∧ Aside0 (RVs wr (w2.heap.size + 1) ov rs acc) ∧ Aside0 (wr.heap[w2.heap.size]? = some (.cells #[.int .i64 at_] 3 (0, 0))) ∧ Aside0 (Below w2.heap.size w2 wr)) (fun _ i _ => n - (intOf i).toNat)
      case atStart => exact ⟨0, 0, [], [], Nat.zero_le _, rfl, ⟨rfl⟩, ⟨by simp [sumC], by simp⟩, ⟨RVs.nil _ _⟩, ⟨blk_new _ _⟩, ⟨below_alloc (Below.refl _ _) _⟩⟩
      case round =>
        obtain ⟨k, at_, acc, rs, hk, rfl, HU, HAT, HRA, HBA2, HB⟩ := hrel
        by_cases hlt : k < n
        · obtain ⟨m, hmk⟩ : ∃ m, l[k]? = some m := ⟨_, List.getElem?_eq_getElem (by rw [HN.out]; exact hlt)⟩
          have hmem := List.mem_of_getElem? hmk
          have HW := Aside0.mk (HB2.out.trans (HB.out.mono HB2.out.size))
          obtain ⟨ad, rfl, y0, y1, y2⟩ := HM.out.below HW.out k m hmk
          obtain ⟨hw1, hw2, hw3⟩ := HMW.out m hmem
          have hone := HALL.out.1 m hmem
          have hbb := one_bits hone
          obtain ⟨nn, hnn⟩ : ∃ nn : Nat, m.bits = (nn : Int) := ⟨m.bits.toNat, by omega⟩
          have hdrop : l.drop k = m :: l.drop (k + 1) := by
            have hkl : k < l.length := by rw [HN.out]; exact hlt
            rw [List.drop_eq_getElem_cons hkl]
            rw [List.getElem?_eq_getElem hkl] at hmk
            injection hmk with hmk
            rw [hmk]
          have hsum := sumC_take l k m hmk
          have hsle := (sumC_le HBP.out (k + 1)).2
          have hszc : at_ + nn ≤ 8 * b.length := by
            have h1 := HLEN.out
            have h2 := HNB.out
            have h3 := HAT.out.1
            have h4 := HALL.out.2
            unfold sizeC at h1
            omega
          have h64 : at_ + nn ≤ 64 := by
            have h3 := HAT.out.1
            have h4 := HALL.out.2
            omega
          have HSUM := Aside0.mk (show sumC (l.take (k + 1)) = ((at_ + nn : Nat) : Int) by rw [hsum, HAT.out.1, hnn]; omega)
          have hu := HU.out
          rw [hdrop, show unpA o b (m :: l.drop (k + 1)) at_ acc = if gapC m then unpA o b (l.drop (k + 1)) (at_ + m.bits.toNat) acc
            else if (mayW o m.ix m.sub (outV b at_ m.bits.toNat)).2 ≠ 0 then ([], (mayW o m.ix m.sub (outV b at_ m.bits.toNat)).2)
            else unpA o b (l.drop (k + 1)) (at_ + m.bits.toNat) (acc ++ [((m.ix, m.sub), outV b at_ m.bits.toNat)]) from rfl, show m.bits.toNat = nn by omega] at hu
          obtain ⟨ix, sub, bits⟩ := m
          simp only at hnn hw1 hw2 hw3 y0 y1 y2 hu hbb
          subst hnn
          have hb1 : Below wr.heap.size wr (wr.alloc (.cells #[.int .u16 ix, .int .u8 sub, .int .i64 nn] 48)) := below_alloc (Below.refl _ _) _
          have HROW := Aside0.mk (blk_new wr (.cells #[.int .u16 ix, .int .u8 sub, .int .i64 nn] 48))
          have hbx := blk_below (blk_below HBX2.out HB.out) hb1
          have HTK := Aside0.mk (Go.Proofs.YtokebpeplopjhaaDoor.Num.take_any w.heap.size w2.heap.size cb Ab b at_ nn (wr.alloc (.cells #[.int .u16 ix, .int .u8 sub, .int .i64 nn] 48)) (by rw [HNB.out]; exact blk_cell hbx 0) (blk_below HBA2.out hb1) ((HBA.out.below HW.out).below hb1).rd HBA.out.byt hszc (by omega))
          have HU2 := Aside0.mk hu
          have HB1' := Aside0.mk hb1
          have hsz2 : w2.heap.size < wr.heap.size := blk_lt HBA2.out
          clear hu hsum hsle hszc hdrop hmk hone hb1 hbx hmem
          by_cases hg : gapC ⟨ix, sub, nn⟩
          · have HGAP := Aside0.mk (decide_eq_true hg)
            go_wp2_with (first
              | (go_at_call 79; refine HTK.out.mono ?_; rintro e w4 ⟨gt, rfl, hgt, hrb, hba4, hf4⟩; have HRB4 := Aside0.mk hrb; have HBA4 := Aside0.mk hba4; have HF4 := Aside0.mk hf4; have HGT := Aside0.mk hgt; have HGT2 := Aside0.mk (show w2.heap.size + 1 ≤ gt by simp at hgt; omega); have HB4 := Aside0.mk ((HB.out.trans (HB1'.out.mono HB.out.size)).trans (hf4.below (B := w2.heap.size) (fun jj hj => ⟨by simp; omega, fun e => absurd (show jj = w2.heap.size from e) (by omega)⟩))); have HRW4 := Aside0.mk ((hf4.block wr.heap.size (by simp) (fun e => absurd (show wr.heap.size = w2.heap.size from e) (by omega))).trans HROW.out); obtain ⟨c0, c1, c2, -⟩ := held3 HRW4.out; have HRA4 := Aside0.mk (RVs.fr (RVs.below HRA.out HB1'.out) hf4 (fun jj hj e => absurd (show jj = w2.heap.size from e) (by omega))); have HW4 := Aside0.mk (HB2.out.trans (HB4.out.mono HB2.out.size)); clear hrb hba4 hf4 hgt)
              | (go_at_call 80; refine (gap_any ix sub nn hw1 _ (HT.out.below HW4.out)).mono ?_; rw [HGAP.out]; rintro e w5 ⟨rfl, hb5⟩; have HB5 := Aside0.mk (HB4.out.trans (hb5.mono HB4.out.size)); have HRA5 := Aside0.mk (RVs.below HRA4.out hb5); have HBA5 := Aside0.mk (blk_below HBA4.out hb5); have HRB5 := Aside0.mk (show Go.Proofs.YtokebpeplopjhaaDoor.Num.RowB w5 gt (outV b at_ nn) from blk_below HRB4.out hb5); have HW5 := Aside0.mk (HB2.out.trans (HB5.out.mono HB2.out.size)); obtain ⟨d0, d1, d2, -⟩ := held3 (blk_below HRW4.out hb5); have HRW5 := Aside0.mk (blk_below HRW4.out hb5); clear hb5))
            go_roundw
            case rel =>
              refine ⟨k + 1, at_ + nn, acc, rs, by omega, by go_num, ⟨?_⟩, ⟨HSUM.out, by have := HAT.out.2; omega⟩, HRA5, ⟨HBA5.out⟩, HB5⟩
              rw [HU2.out, if_pos hg]
            case measure => simp [intOf]; omega
          · have HGAP := Aside0.mk (decide_eq_false hg)
            obtain ⟨⟨t1, t2⟩, hmw2⟩ : ∃ q, mayW o ix sub (outV b at_ nn) = q := ⟨_, rfl⟩
            have HMW2 := Aside0.mk hmw2
            have hu2 := HU2.out
            rw [if_neg hg, hmw2] at hu2
            simp only at hu2
            by_cases ht2 : t2 = 0
            · subst ht2
              rw [if_neg (by simp)] at hu2
              have HU3 := Aside0.mk hu2
              clear hu2 hmw2
              go_wp2_with (first
                | (go_at_call 79; refine HTK.out.mono ?_; rintro e w4 ⟨gt, rfl, hgt, hrb, hba4, hf4⟩; have HRB4 := Aside0.mk hrb; have HBA4 := Aside0.mk hba4; have HF4 := Aside0.mk hf4; have HGT := Aside0.mk hgt; have HGT2 := Aside0.mk (show w2.heap.size + 1 ≤ gt by simp at hgt; omega); have HB4 := Aside0.mk ((HB.out.trans (HB1'.out.mono HB.out.size)).trans (hf4.below (B := w2.heap.size) (fun jj hj => ⟨by simp; omega, fun e => absurd (show jj = w2.heap.size from e) (by omega)⟩))); have HRW4 := Aside0.mk ((hf4.block wr.heap.size (by simp) (fun e => absurd (show wr.heap.size = w2.heap.size from e) (by omega))).trans HROW.out); obtain ⟨c0, c1, c2, -⟩ := held3 HRW4.out; have HRA4 := Aside0.mk (RVs.fr (RVs.below HRA.out HB1'.out) hf4 (fun jj hj e => absurd (show jj = w2.heap.size from e) (by omega))); have HW4 := Aside0.mk (HB2.out.trans (HB4.out.mono HB2.out.size)); clear hrb hba4 hf4 hgt)
                | (go_at_call 80; refine (gap_any ix sub nn hw1 _ (HT.out.below HW4.out)).mono ?_; rw [HGAP.out]; rintro e w5 ⟨rfl, hb5⟩; have HB5 := Aside0.mk (HB4.out.trans (hb5.mono HB4.out.size)); have HRA5 := Aside0.mk (RVs.below HRA4.out hb5); have HBA5 := Aside0.mk (blk_below HBA4.out hb5); have HRB5 := Aside0.mk (show Go.Proofs.YtokebpeplopjhaaDoor.Num.RowB w5 gt (outV b at_ nn) from blk_below HRB4.out hb5); have HW5 := Aside0.mk (HB2.out.trans (HB5.out.mono HB2.out.size)); obtain ⟨d0, d1, d2, -⟩ := held3 (blk_below HRW4.out hb5); have HRW5 := Aside0.mk (blk_below HRW4.out hb5); clear hb5)
                | (go_at_call 26; have hmay := may_any B v o ix sub hw1 hw2 (some ⟨gt, 0, none⟩) ((nn + 7) / 8) (outV b at_ nn) w5 (HD.out.below HW5.out) (HT.out.below HW5.out) ⟨rowB_rd HRB5.out (by rw [outV_length]; omega), outV_byt _ _ _, Nat.le_of_eq (outV_length _ _ _), by omega⟩ (HWF.out ix sub); rw [outV_length, HMW2.out] at hmay; refine hmay.mono ?_; clear hmay; rintro e w6 ⟨rfl, hb6⟩; have HB6 := Aside0.mk (HB5.out.trans (hb6.mono HB5.out.size)); have HRA6 := Aside0.mk (RVs.below HRA5.out hb6); have HBA6 := Aside0.mk (blk_below HBA5.out hb6); have HRB6 := Aside0.mk (show Go.Proofs.YtokebpeplopjhaaDoor.Num.RowB w6 gt (outV b at_ nn) from blk_below HRB5.out hb6); obtain ⟨e0, e1, e2, -⟩ := held3 (blk_below HRW5.out hb6); clear hb6)
                | ((with_reducible refine gate_builtin (b := .append) (xs := #[.tmp 52, .tmp 57]) rfl ?_); at_builtin; refine Kd.R_append kR (w0 := w6) (w2.heap.size + 1) rfl (.tmp 52) (.tmp 57) 24 36 (.agg #[.int .u16 0, .int .u8 0, .slice none 0 0]) 32 rfl Tryd.underlying24 info_v rfl (by decide) (by decide) _ rs [.int .u16 ix, .int .u8 sub, .slice (some ⟨gt, 0, none⟩) ((nn + 7) / 8) ((nn + 7) / 8)] [.int .u16 ix, .int .u8 sub, .slice (some ⟨gt, 0, none⟩) ((nn + 7) / 8) ((nn + 7) / 8)] (fun _ => True) (fun _ => False) rfl rfl ⟨rfl, rfl, by intro u hu; simp at hu; rcases hu with rfl | rfl | rfl <;> rfl⟩ (fun _ hk => hk.elim) (fun _ _ => trivial) HRA6.out.1 (Below.refl _ _) (by have := blk_lt HBA6.out; omega) (by rw [HRA.out.2.1]; have := HAT.out.2; omega) ?_; intro v7 w7 hown hb7 hg7 hat7; have HR7 := Aside0.mk (show RVs w7 (w2.heap.size + 1) v7 (rs ++ [[.int .u16 ix, .int .u8 sub, .slice (some ⟨gt, 0, none⟩) ((nn + 7) / 8) ((nn + 7) / 8)]]) (acc ++ [((ix, sub), outV b at_ nn)]) from ⟨hown, (HRA6.out.2.snoc (H := wr.heap.size) HRA.out.2.lt (by have := HGT.out; simp at this; omega) HRB6.out HGT2.out (outV_length _ _ _)).grown HRA6.out.1 hg7⟩); have HB7 := Aside0.mk (HB6.out.trans (hb7.mono (Nat.le_succ _))); have HBA7 := Aside0.mk ((hb7.block w2.heap.size (Nat.lt_succ_self _)).trans HBA6.out); clear hown hb7 hg7 hat7))
              go_roundw
              case rel =>
                exact ⟨k + 1, at_ + nn, acc ++ [((ix, sub), outV b at_ nn)], rs ++ [[.int .u16 ix, .int .u8 sub, .slice (some ⟨gt, 0, none⟩) ((nn + 7) / 8) ((nn + 7) / 8)]], by omega, by go_num, HU3, ⟨HSUM.out, by have := HAT.out.2; simp; omega⟩, HR7, ⟨HBA7.out⟩, HB7⟩
              case measure => simp [intOf]; omega
            · have f1 : (t2 == 0) = false := by simpa using ht2
              have f2 : (t2 != 0) = true := by simpa using ht2
              rw [if_pos ht2] at hu2
              have hrr : r = ([], t2) := by rw [← HR.out, hu2]
              subst hrr
              clear hu2 hmw2
              go_wp2_with (first
                | (go_at_call 79; refine HTK.out.mono ?_; rintro e w4 ⟨gt, rfl, hgt, hrb, hba4, hf4⟩; have HRB4 := Aside0.mk hrb; have HBA4 := Aside0.mk hba4; have HF4 := Aside0.mk hf4; have HGT := Aside0.mk hgt; have HGT2 := Aside0.mk (show w2.heap.size + 1 ≤ gt by simp at hgt; omega); have HB4 := Aside0.mk ((HB.out.trans (HB1'.out.mono HB.out.size)).trans (hf4.below (B := w2.heap.size) (fun jj hj => ⟨by simp; omega, fun e => absurd (show jj = w2.heap.size from e) (by omega)⟩))); have HRW4 := Aside0.mk ((hf4.block wr.heap.size (by simp) (fun e => absurd (show wr.heap.size = w2.heap.size from e) (by omega))).trans HROW.out); obtain ⟨c0, c1, c2, -⟩ := held3 HRW4.out; have HRA4 := Aside0.mk (RVs.fr (RVs.below HRA.out HB1'.out) hf4 (fun jj hj e => absurd (show jj = w2.heap.size from e) (by omega))); have HW4 := Aside0.mk (HB2.out.trans (HB4.out.mono HB2.out.size)); clear hrb hba4 hf4 hgt)
                | (go_at_call 80; refine (gap_any ix sub nn hw1 _ (HT.out.below HW4.out)).mono ?_; rw [HGAP.out]; rintro e w5 ⟨rfl, hb5⟩; have HB5 := Aside0.mk (HB4.out.trans (hb5.mono HB4.out.size)); have HRA5 := Aside0.mk (RVs.below HRA4.out hb5); have HBA5 := Aside0.mk (blk_below HBA4.out hb5); have HRB5 := Aside0.mk (show Go.Proofs.YtokebpeplopjhaaDoor.Num.RowB w5 gt (outV b at_ nn) from blk_below HRB4.out hb5); have HW5 := Aside0.mk (HB2.out.trans (HB5.out.mono HB2.out.size)); obtain ⟨d0, d1, d2, -⟩ := held3 (blk_below HRW4.out hb5); have HRW5 := Aside0.mk (blk_below HRW4.out hb5); clear hb5)
                | (go_at_call 26; have hmay := may_any B v o ix sub hw1 hw2 (some ⟨gt, 0, none⟩) ((nn + 7) / 8) (outV b at_ nn) w5 (HD.out.below HW5.out) (HT.out.below HW5.out) ⟨rowB_rd HRB5.out (by rw [outV_length]; omega), outV_byt _ _ _, Nat.le_of_eq (outV_length _ _ _), by omega⟩ (HWF.out ix sub); rw [outV_length, HMW2.out] at hmay; refine hmay.mono ?_; clear hmay; rintro e w6 ⟨rfl, hb6⟩; have HB6 := Aside0.mk (HB5.out.trans (hb6.mono HB5.out.size)); have HRA6 := Aside0.mk (RVs.below HRA5.out hb6); have HBA6 := Aside0.mk (blk_below HBA5.out hb6); have HRB6 := Aside0.mk (show Go.Proofs.YtokebpeplopjhaaDoor.Num.RowB w6 gt (outV b at_ nn) from blk_below HRB5.out hb6); obtain ⟨e0, e1, e2, -⟩ := held3 (blk_below HRW5.out hb6); clear hb6))
              go_ret2
              exact ⟨_, w.heap.size, rfl, Nat.le_refl _, RV.nil _ _, HB2.out.trans (HB6.out.mono HB2.out.size)⟩
        · obtain rfl : k = n := by omega
          have hrr : r = (acc, 0) := by
            rw [← HR.out, HU.out, List.drop_of_length_le (by rw [HN.out]; exact Nat.le_refl _)]
            rfl
          subst hrr
          go_wp2
          go_ret2
          exact ⟨_, w2.heap.size + 1, rfl, by have := HB2.out.size; omega, ⟨rs, HRA.out⟩, HB2.out.trans (HB.out.mono HB2.out.size)⟩
  · have g1 : (q == 0) = false := by simpa using hq0
    have g2 : (q != 0) = true := by simpa using hq0
    rw [if_pos hq0] at hr
    subst hr
    rw [hn] at HCK ⊢
    rw [hnb] at HCK HB0 ⊢
    go_enter Tryd.func27, Tryd.ntmps27
    go_wp2_with (go_at_call 21; refine HCK.out.mono ?_; rintro e w1 ⟨rfl, hb1⟩; have HB1 := Aside0.mk (HB0.out.trans (hb1.mono (by simp))); clear hb1)
    go_ret2
    exact ⟨_, w.heap.size, rfl, Nat.le_refl _, RV.nil _ _, HB1.out⟩
end Go.Proofs.YtokebpeplopjhaaDoor.Mp
namespace Go.Proofs.YtokebpeplopjhaaDoor.Mp
open Go.RowKit Go.Shelf Go.Proofs.YtokebpeplopjhaaDoor.Rng Go.Proofs.YtokebpeplopjhaaDoorW.PrintWords Go.Proofs.YtokebpeplopjhaaDoorW.PrintMore
open Go.ChangeShapes Go.WideShapes Go.Deep

theorem cells_vl : Tryd.prog.cellsOf 36 = 3 := by kernel_rfl
/-- A row of values for places. -/
def VsAt (w : World) (A : Option Addr) (l : List Vl) : Prop := ∀ (j : Nat) x, l[j]? = some x → ∃ ad A1 a1, A = some ad ∧ w.cell? (ad.add (j * 3)) = some (.int .u16 x.1.1) ∧ w.cell? ⟨(ad.add (j * 3)).block, (ad.add (j * 3)).off + 1, none⟩ = some (.int .u8 x.1.2) ∧ w.cell? ⟨(ad.add (j * 3)).block, (ad.add (j * 3)).off + 2, none⟩ = some (.slice A1 x.2.length a1) ∧ ArgV w (.slice A1 x.2.length a1) x.2
theorem VsAt.below {w w' : World} {A : Option Addr} {l : List Vl} (h : VsAt w A l) (hb : Below w.heap.size w w') : VsAt w' A l := by
  intro j x hj
  obtain ⟨ad, A1, a1, hA, h1, h2, h3, h4⟩ := h j x hj
  exact ⟨ad, A1, a1, hA, pw_cell_below hb h1, pw_cell_below hb h2, pw_cell_below hb h3, h4.below hb⟩
theorem DictAt.fr {M : Nat → Prop} {B : Nat} {w w' : World} {g : Nat} {d : DD} {bi bs n m : Nat} {fi fs : Value → Option Value} (h : DictAt B w g d bi bs n m fi fs) (hf : Fr M w w') (hM : NoByte w M) (h1 : ¬ M g) (h2 : ¬ M bi) (h3 : ¬ M bs) : DictAt B w' g d bi bs n m fi fs :=
  ⟨(hf.block g (blk_lt h.blk) h1).trans h.blk, h.base, h.items.block (hf.block bi h.items.lt h2), h.subs.block (hf.block bs h.subs.lt h3), h.no, fun i s x hi hs hx => by
    obtain ⟨v, e1, e2⟩ := h.yes i s x hi hs hx
    exact ⟨v, e1, e2.fr hf hM⟩, h.count⟩
theorem DictB.noByte {B : Nat} {w : World} {g bi bs : Nat} {d : DD} (h : DictB B w g bi bs d) : NoByte w (fun k => k = g ∨ k = bi) := by
  obtain ⟨n, m, fi, fs, h⟩ := h
  exact h.noByte
theorem DictB.lt {B : Nat} {w : World} {g bi bs : Nat} {d : DD} (h : DictB B w g bi bs d) : g < w.heap.size ∧ bi < w.heap.size ∧ bs < w.heap.size := by
  obtain ⟨n, m, fi, fs, h⟩ := h
  exact ⟨blk_lt h.blk, h.items.lt, h.subs.lt⟩
theorem DictB.ge {B : Nat} {w : World} {g bi bs : Nat} {d : DD} (h : DictB B w g bi bs d) : B ≤ g ∧ B ≤ bi ∧ B ≤ bs := by
  obtain ⟨n, m, fi, fs, h⟩ := h
  exact ⟨h.base.1, h.base.2.1, h.base.2.2.1⟩
theorem DictB.fr {M : Nat → Prop} {B : Nat} {w w' : World} {g bi bs : Nat} {d : DD} (h : DictB B w g bi bs d) (hf : Fr M w w') (hM : NoByte w M) (h1 : ¬ M g) (h2 : ¬ M bi) (h3 : ¬ M bs) : DictB B w' g bi bs d := by
  obtain ⟨n, m, fi, fs, h⟩ := h
  exact ⟨n, m, fi, fs, h.fr hf hM h1 h2 h3⟩
section
variable {H : Type} {enc : TypeId × Value → H} {W : World} {held : Bool}
set_option maxRecDepth 100000 in
/-- One value. -/
theorem open_vl {fuel : Nat} {cs : List Value} {d : DataW H} {p : List MemPlace} (h : DataW.trod enc Tryd.prog W 0 (fun _ => true) held fuel 36 cs = some (d, p)) (hwt : ∀ n ∈ d.weights Tryd.prog 36, n ≤ reachBytes) :
    ∃ (x : Vl) (v : Value), cs = [.int .u16 x.1.1, .int .u8 x.1.2, v] ∧ ArgV W v x.2 ∧ (0 ≤ x.1.1 ∧ x.1.1 < 65536) ∧ (0 ≤ x.1.2 ∧ x.1.2 < 256) := by
  obtain ⟨xs, n, rfl, hx, hcl, hxl, hf⟩ := DataW.trod_struct Tryd.underlying36 h
  rw [cells_vl] at hcl
  match xs, hxl, cs, hcl with
  | [y0, y1], _, [c0, c1, c2], _ =>
    have g0 := hf 0 _ rfl
    have g1 := hf 1 _ rfl
    simp [cells_place, cells_bs] at g0 g1
    obtain ⟨i, s, e, hi, hs⟩ := open_place g0
    simp only [List.cons.injEq, and_true] at e
    obtain ⟨rfl, rfl⟩ := e
    obtain ⟨hd, _⟩ := Prod.mk.inj hx
    subst hd
    obtain ⟨d1, p1⟩ := y1
    obtain ⟨zs, hz⟩ := open_bs g1 (fun n hn => hwt n (by
      simp only [DataW.weights, Tryd.underlying36]
      exact DataW.weights_mem_each (ts := [33, 34]) (j := 1) rfl rfl n hn))
    exact ⟨((i, s), zs), c2, rfl, hz, hi, hs⟩
/-- A row of values. -/
theorem open_vs {v : Value} {d : DataW H} {p : List MemPlace} (h : DataW.Trod enc Tryd.prog W 0 (fun _ => true) held 24 v d p) (hv : v.cells.toList = [v]) (hwt : ∀ n ∈ d.weights Tryd.prog 24, n ≤ reachBytes) :
    ∃ (l : List Vl) (A : Option Addr) (c : Nat), v = .slice A l.length c ∧ VsAt W A l ∧ (∀ x ∈ l, (0 ≤ x.1.1 ∧ x.1.1 < 65536) ∧ (0 ≤ x.1.2 ∧ x.1.2 < 256) ∧ Byt x.2) ∧ l.length ≤ 140737488355328 := by
  obtain ⟨fuel, hf⟩ := h
  rw [hv] at hf
  have h3 : reachBytes = 140737488351232 := rfl
  rcases open_slice Tryd.underlying24 hf with ⟨hcs, hx⟩ | ⟨a, len, cap, m, n, D, Pl, hcs, _, hl, hm, hmm, hx, hel⟩
  · injection hcs with hcs
    subst hcs
    exact ⟨[], none, 0, rfl, (fun j e hj => by simp at hj), (by intro x hx; cases hx), Nat.zero_le _⟩
  · injection hcs with hcs
    subst hcs
    rw [if_pos rfl] at hmm
    subst hmm
    rw [cells_vl] at hel hx
    obtain ⟨hd, -⟩ := Prod.mk.inj hx
    subst hd
    have hwl : len ≤ reachBytes := by
      have h1 := hwt _ (by
        simp only [DataW.weights, Tryd.underlying24]
        exact List.mem_cons.2 (.inl rfl))
      rw [bytes_vl] at h1
      simp only [List.length_map, List.length_range] at h1
      omega
    have each : ∀ i, i < len → ∃ q : Vl × Value, W.cells? 0 (a.add (i * 3)) 3 = some [.int .u16 q.1.1.1, .int .u8 q.1.1.2, q.2] ∧ ArgV W q.2 q.1.2 ∧ (0 ≤ q.1.1.1 ∧ q.1.1.1 < 65536) ∧ (0 ≤ q.1.1.2 ∧ q.1.1.2 < 256) := by
      intro i hi
      obtain ⟨cs', h1, h2⟩ := hel i (by omega)
      obtain ⟨x, v, rfl, r1, r2, r3⟩ := open_vl h2 (fun n hn => hwt n (by
        simp only [DataW.weights, Tryd.underlying24]
        refine List.mem_cons.2 (.inr (List.mem_append.2 (.inl ?_)))
        exact mem_weightsAll (List.mem_map.2 ⟨i, List.mem_range.2 hi, rfl⟩) hn))
      exact ⟨(x, v), h1, r1, r2, r3⟩
    haveI : Inhabited (Vl × Value) := ⟨(((0, 0), []), .int .u8 0)⟩
    obtain ⟨q, hq⟩ := choose_lt each
    have hlen : ((List.range len).map fun i => (q i).1).length = len := by simp
    refine ⟨(List.range len).map fun i => (q i).1, some a, m, by rw [hlen], fun j e hj => ?_, fun x hx => ?_, by omega⟩
    · have hjl : j < len := by have := (List.getElem?_eq_some_iff.1 hj).1; omega
      obtain ⟨h1, h2, _, _⟩ := hq j hjl
      have hxe : e = (q j).1 := by
        rw [List.getElem?_map, List.getElem?_range hjl] at hj
        exact (Option.some.inj hj).symm
      subst hxe
      obtain ⟨_, _, hcell⟩ := World.cells?_some h1
      have f : ∀ (i : Nat) u, 0 < i → i < 3 → [Value.int .u16 (q j).1.1.1, .int .u8 (q j).1.1.2, (q j).2][i]? = some u → W.cell? ⟨(a.add (j * 3)).block, (a.add (j * 3)).off + i, none⟩ = some u := fun i u h0 hi hu => by
        have h5 := hcell i (by simpa using hi)
        rw [← add_field _ _ i h0, ← Go.Deep.add_add]
        first | exact h5.trans hu | (rw [h5]; exact hu)
      obtain ⟨A1, a1, e1, h4⟩ := h2
      refine ⟨a, A1, a1, rfl, ?_, f 1 _ (by omega) (by omega) rfl, f 2 _ (by omega) (by omega) (by rw [e1]; rfl), ⟨A1, a1, rfl, h4⟩⟩
      have h5 := hcell 0 (by simp)
      rw [Go.Deep.add_add, Nat.add_zero] at h5
      simpa using h5
    · obtain ⟨i, hi, rfl⟩ := List.mem_map.1 hx
      obtain ⟨_, h2, h3, h4⟩ := hq i (List.mem_range.1 hi)
      exact ⟨h3, h4, h2.byt⟩
end
end Go.Proofs.YtokebpeplopjhaaDoor.Mp
namespace Go.Proofs.YtokebpeplopjhaaDoor.Mp
open Go.RowKit Go.Shelf Go.Proofs.YtokebpeplopjhaaDoor.Rng Go.Proofs.YtokebpeplopjhaaDoorW.PrintWords Go.Proofs.YtokebpeplopjhaaDoorW.PrintMore Go.Proofs.YtokebpeplopjhaaDoorW.PrintLast

theorem keep_noByte {M : Nat → Prop} {w w' : World} (hf : Fr M w w') (hM : NoByte w M) : Keep8 w w' := fun p y hp => hf.cell hp (fun h => hM p y h hp)
theorem ItV.keep {w w' : World} {v : Value} {x : It} (h : ItV w v x) (hk : Keep8 w w') : ItV w' v x := by
  obtain ⟨v1, v2, v3, v4, hv, h1, h2, h3, h4⟩ := h
  exact ⟨v1, v2, v3, v4, hv, h1.keep hk, h2.keep hk, h3.keep hk, h4.keep hk⟩
theorem DictB.kp {M : Nat → Prop} {B : Nat} {w w' : World} {g bi bs : Nat} {d : DD} (h : DictB B w g bi bs d) (hf : Fr M w w') (hk : Keep8 w w') (h1 : ¬ M g) (h2 : ¬ M bi) (h3 : ¬ M bs) : DictB B w' g bi bs d := by
  obtain ⟨n, m, fi, fs, h⟩ := h
  exact ⟨n, m, fi, fs, (hf.block g (blk_lt h.blk) h1).trans h.blk, h.base, h.items.block (hf.block bi h.items.lt h2), h.subs.block (hf.block bs h.subs.lt h3), h.no, fun i s x hi hs hx => by
    obtain ⟨v, e1, e2⟩ := h.yes i s x hi hs hx
    exact ⟨v, e1, e2.keep hk⟩, h.count⟩
theorem RefB.kp {M : Nat → Prop} {B : Nat} {w w' : World} {g gA : Nat} {L : List It} {N : Int} (h : RefB B w g L N) (hr : RowAt w g gA) (hf : Fr M w w') (hk : Keep8 w w') (h1 : ¬ M g) (h2 : ¬ M gA) : RefB B w' g L N := by
  obtain ⟨A, c, cs, q0, q1, q2, q3, q4, q5, q6⟩ := h
  refine ⟨A, c, cs, q0, (hf.block g (blk_lt q1) h1).trans q1, ?_, q3, q4, q5.imp fun _ _ h => h.keep hk, fun ad e => ?_⟩
  · cases A with
    | none =>
      have hl : L.length = 0 := by
        apply Nat.eq_zero_of_not_pos
        intro hp
        obtain ⟨ad, e, -⟩ := q2.2.2 hp
        cases e
      rw [hl] at q2 ⊢
      exact ⟨q2.1, q2.2.1, fun h => absurd h (Nat.lt_irrefl 0)⟩
    | some ad => exact kI_fr q2 hf (by rw [hr _ _ _ _ _ _ q1 ad rfl]; exact h2)
  · obtain ⟨r1, r2, ⟨r3, cells, r4⟩, r5⟩ := q6 ad e
    subst e
    exact ⟨r1, r2, ⟨r3, cells, (hf.block _ (blk_lt r4) (by rw [hr _ _ _ _ _ _ q1 ad rfl]; exact h2)).trans r4⟩, r5.imp fun _ _ h => h.keep hk⟩
theorem RefW.kp {M : Nat → Prop} {B : Nat} {w w' : World} {g gA : Nat} {d : DD} (h : RefW B w g gA d) (hf : Fr M w w') (hk : Keep8 w w') (h1 : ¬ M g) (h2 : ¬ M gA) : RefW B w' g gA d := by
  obtain ⟨q1, q2, q3, L, q4, q5⟩ := h
  exact ⟨q1, Nat.lt_of_lt_of_le q2 hf.size, q3.block (hf.block g q4.ge.2 h1), L, q4.kp q3 hf hk h1 h2, q5⟩
/-- Their blocks are not the same. -/
def Sep (gd bi bs gr gA : Nat) : Prop := (gr ≠ gd ∧ gr ≠ bi ∧ gr ≠ bs) ∧ (gA ≠ gd ∧ gA ≠ bi ∧ gA ≠ bs)
theorem two_sep {B : Nat} {w : World} {gd bi bs gr : Nat} {d : DD} {L : List It} {N : Int} (h : DictB B w gd bi bs d) (hr : RefB B w gr L N) : ∃ gA, B ≤ gA ∧ gA < w.heap.size ∧ RowAt w gr gA ∧ Sep gd bi bs gr gA := by
  obtain ⟨n, m, fi, fs, h⟩ := h
  have key : ∀ (k : Nat) (cells : Array Value) (t : TypeId), w.heap[k]? = some (.cells cells t (0, 0)) → t ≠ 125 → k ≠ gd ∧ k ≠ bi ∧ k ≠ bs := by
    intro k cells t hk ht
    refine ⟨fun e => ?_, fun e => ?_, fun e => ?_⟩
    · have h1 := h.blk
      rw [← e, hk] at h1
      injection h1 with h1
      injection h1 with _ h1 _
      exact ht h1
    · obtain ⟨es, cl, h1, -⟩ := h.items
      rw [← e, hk] at h1
      injection h1 with h1
      cases h1
    · obtain ⟨es, cl, h1, -⟩ := h.subs
      rw [← e, hk] at h1
      injection h1 with h1
      cases h1
  obtain ⟨A, c, cs, h0, h1, h2, -, -, -, h6⟩ := hr
  have hg := key gr _ _ h1 (by decide)
  have row : ∀ gA, (∀ ad, A = some ad → ad.block = gA) → RowAt w gr gA := by
    intro gA hA A' n' c2 u t z hh ad hA'
    rw [h1] at hh
    injection hh with hh
    injection hh with hh _ _
    simp only [Array.mk.injEq, List.cons.injEq, Value.slice.injEq] at hh
    rw [← hh.1.1] at hA'
    exact hA ad hA'
  cases A with
  | none => exact ⟨gr, h0, blk_lt h1, row gr (fun ad e => by cases e), hg, hg⟩
  | some ad =>
    obtain ⟨q1, -, ⟨-, cells, q2⟩, -⟩ := h6 ad rfl
    exact ⟨ad.block, q1, blk_lt q2, row _ (fun ad' e => by injection e with e; rw [e]), hg, key _ _ _ q2 (by decide)⟩
/-- Both dictionaries, their blocks named. -/
def TwoW (B : Nat) (w : World) (gd bi bs gr gA : Nat) (d : DD) : Prop := DictB B w gd bi bs d ∧ RefW B w gr gA d ∧ Sep gd bi bs gr gA
theorem TwoW.below {B : Nat} {w w' : World} {gd bi bs gr gA : Nat} {d : DD} (h : TwoW B w gd bi bs gr gA d) (hb : Below w.heap.size w w') : TwoW B w' gd bi bs gr gA d := ⟨h.1.below hb, h.2.1.below hb, h.2.2⟩
theorem TwoW.two {B : Nat} {w : World} {gd bi bs gr gA : Nat} {d : DD} (h : TwoW B w gd bi bs gr gA d) : Two B w (.pointer (some ⟨gd, 0, none⟩)) (.pointer (some ⟨gr, 0, none⟩)) (some d) := by
  obtain ⟨h1, ⟨-, -, -, L, h2, h3, -⟩, -⟩ := h
  exact ⟨gd, gr, L, rfl, rfl, h1.dict, h2.at_, h3⟩
theorem both_w {B : Nat} {w : World} {d : DD} {e : Ending} {w' : World} (h : BothSaid B w (some d) e w') (hB : B ≤ w.heap.size) : ∃ gd bi bs gr gA, e = .returned (.tuple #[.pointer (some ⟨gd, 0, none⟩), .pointer (some ⟨gr, 0, none⟩)]) ∧ TwoW B w' gd bi bs gr gA d ∧ Below w.heap.size w w' := by
  obtain ⟨hb, g, bi, bs, gr, L, e1, -, -, -, h1, h2, h3, h4⟩ := h
  have h2' := h2.mono hB
  obtain ⟨gA, r1, r2, r3, r4⟩ := two_sep h1 h2'
  exact ⟨g, bi, bs, gr, gA, e1, ⟨h1, ⟨r1, r2, r3, L, h2', h3, h4⟩, r4⟩, hb⟩
/-- The same values: a call of the law's same. -/
theorem same_two {B : Nat} {w : World} {gd bi bs gr gA : Nat} {d : DD} (h : TwoW B w gd bi bs gr gA d) (hd : Good d) : Calls Tryd.prog 34 #[.pointer (some ⟨gd, 0, none⟩), .pointer (some ⟨gr, 0, none⟩)] w fun e w' => e = .returned (.bool true) ∧ Below w.heap.size w w' := by
  obtain ⟨h1, ⟨-, -, -, L, h2, h3, -⟩, -⟩ := h
  exact same_any B _ d gr L w ⟨gd, rfl, h1.dict⟩ h2.at_ h3 (ref_range h3 hd)
end Go.Proofs.YtokebpeplopjhaaDoor.Mp
namespace Go.Proofs.YtokebpeplopjhaaDoor.Mp
open Go.RowKit Go.Shelf Go.Proofs.YtokebpeplopjhaaDoor.Rng Go.Proofs.YtokebpeplopjhaaDoorW.PrintWords Go.Proofs.YtokebpeplopjhaaDoorW.PrintMore Go.Proofs.YtokebpeplopjhaaDoorW.PrintLast

theorem str_row2 {w : World} {g n : Nat} {zs : List Int} (h : Num.RowB w g zs) (hn : zs.length = n) (hl : n ≤ 1000) : (convert 34 9 (.slice (some ⟨g, 0, none⟩) n n)).run Tryd.prog w = .ok (.string (strOfNums zs)) w := by
  subst hn
  exact str_at (Rd_C (rowB_rd h hl)) w (Below.refl _ _)
/-- Bytes as a string, and back: a row of its own. -/
theorem conv_bs (W : World) {zs : List Int} {n : Nat} (hB : Byt zs) (hn : zs.length = n) (h64 : n ≤ 1000) : ∃ cap W', (convert 9 34 (.string (strOfNums zs))).run Tryd.prog W = .ok (.slice (some ⟨W.heap.size, 0, none⟩) n cap) W' ∧ Arg W' (some ⟨W.heap.size, 0, none⟩) cap zs ∧ Below W.heap.size W W' := by
  have hsz : (strOfNums zs).size = n := by rw [strOfNums_size, hn]
  refine ⟨_, _, by rw [← hsz]; exact Lib.run_convert_string_bytes W 9 34 5 (strOfNums zs) Tryd.underlying9 Tryd.underlying34 Tryd.underlying5, ⟨⟨by omega, fun _ => ⟨_, rfl, fun j hj => ?_⟩⟩, hB, ?_, ?_⟩, ?_⟩
  · rw [add_plain, Lib.bytesWorld_cell W 5 (strOfNums zs) j (by omega)]
    rw [List.getD_eq_getElem?_getD, strOfNums_data, List.getElem?_map, List.getElem?_eq_getElem hj]
    have hx := hB zs[j] (List.getElem_mem hj)
    show some (Value.int .u8 ((UInt8.ofNat zs[j].toNat).toNat : Int)) = some (Value.int .u8 zs[j])
    rw [UInt8.toNat_ofNat']
    congr 2
    omega
  · rw [hn, ← hsz]
    exact grownCap_ge _ _ _ _
  · exact grownCap_le_maxLen _ _ _ _ (by simp [maxLen]; omega)
  · refine ⟨rfl, rfl, rfl, by rw [Lib.bytesWorld_size]; omega, fun k hk => Lib.bytesWorld_at_old W 5 _ k hk⟩
theorem unpA_none {b : List Int} : ∀ (l : List Mp) (at_ : Nat), (∀ m ∈ l, gapC m) → unpA none b l at_ [] = ([], 0)
  | [], _, _ => rfl
  | m :: r, at_, h => by
    unfold unpA
    rw [if_pos (h m (by simp))]
    exact unpA_none r _ (fun x hx => h x (by simp [hx]))
theorem unpack_none (l : List Mp) (b : List Int) : (unpackC none l b).1 = [] := by
  unfold unpackC
  split
  · rfl
  · rename_i hc
    split
    · rfl
    · rw [unpA_none]
      intro m hm
      rcases one_0 ((check_0 (by simpa using hc)).1 m hm) with ⟨e, _⟩ | ⟨_, e, _⟩
      · exact e
      · simp [findC] at e
set_option maxRecDepth 100000 in
set_option maxHeartbeats 1000000 in
theorem mwrite_nil (B : Nat) (l : List Mp) (A : Option Addr) (c : Nat) (Ab : Option Addr) (cb : Nat) (b : List Int) (w : World) (ht : Tbl w) (hm : MsAt w A l) (hl : l.length ≤ 1000000) (hmw : ∀ m ∈ l, m.Wf) (hb : Arg w Ab cb b) :
    Calls Tryd.prog 24 #[.pointer none, .slice A l.length c, .slice Ab b.length cb] w fun e w' => e = .returned (.int .u32 (unpackC none l b).2) ∧ Below w.heap.size w w' := by
  have HUN := Aside0.mk (unpack_any B (.pointer none) none l A c Ab cb b w rfl ht hm hl hmw (fun _ _ => zEn_wf) hb)
  have hx := unpack_none l b
  obtain ⟨⟨xs, q⟩, hq⟩ : ∃ q, unpackC none l b = q := ⟨_, rfl⟩
  rw [hq] at HUN hx ⊢
  simp only at HUN hx ⊢
  subst hx
  clear ht hm hb hq hmw hl
  generalize l.length = n at HUN ⊢
  generalize b.length = nb at HUN ⊢
  go_enter Tryd.func24, Tryd.ntmps24
  go_wp2_with (go_at_call 27; refine HUN.out.mono ?_; rintro e w1 ⟨v1, base, rfl, -, hR, hb1⟩; obtain ⟨A2, c2, rfl, -, -⟩ := Kd.R_reads hR; have HB1 := Aside0.mk hb1; clear hR hb1)
  go_loopw [20] (fun i wr => i = .int .i64 0 ∧ wr = w1) (fun _ _ => 0)
  case atStart => exact ⟨rfl, rfl⟩
  case round =>
    obtain ⟨rfl, rfl⟩ := hrel
    go_wp2
    go_ret
    exact ⟨rfl, HB1.out⟩
set_option maxRecDepth 100000 in
set_option maxHeartbeats 8000000 in
theorem writes_all (l : List En) (A : Option Addr) (c : Nat) (ms : List Mp) (A2 : Option Addr) (c2 : Nat) (b : List Int) (Ab : Option Addr) (cb : Nat) (w : World) (hE : EsAt w A l) (hwg : ∀ e ∈ l, e.Wg ∧ Byt e.df) (hl : l.length ≤ 140737488355328) (hM : MsAt w A2 ms) (hmw : ∀ m ∈ ms, m.Wf) (hml : ms.length ≤ 140737488355328) (hb : Arg w Ab cb b) (hbl : b.length ≤ 140737488355328) (ht : Tbl w) :
    Calls Tryd.prog 9 #[.slice A l.length c, .slice A2 ms.length c2, .slice Ab b.length cb] w fun e w' => e = .returned (.bool true) ∧ Below w.heap.size w w' := by
  have HSZ := Aside0.mk (size_es l A c w hE hl (fun e he => (hwg e he).1.name))
  have HT := Aside0.mk ht
  have HE := Aside0.mk hE
  have HM := Aside0.mk hM
  have HMW := Aside0.mk hmw
  have HBA := Aside0.mk hb
  have HSM := Aside0.mk fun h => small_wf (l := l) h hwg
  obtain ⟨s, hs⟩ : ∃ s, szL l 0 = s := ⟨_, rfl⟩
  rw [hs] at HSZ HSM
  obtain ⟨n, hn⟩ : ∃ n, ms.length = n := ⟨_, rfl⟩
  have HN := Aside0.mk hn
  rw [hn] at hml ⊢
  obtain ⟨nl, hnl⟩ : ∃ nl, l.length = nl := ⟨_, rfl⟩
  have HNL := Aside0.mk hnl
  rw [hnl] at HSZ ⊢
  obtain ⟨nb, hnb⟩ : ∃ nb, b.length = nb := ⟨_, rfl⟩
  have HNB := Aside0.mk hnb
  rw [hnb] at hbl ⊢
  clear hE hM hmw ht hs hn hnl hwg hl hb hnb
  by_cases h1 : 5000 < s
  · go_enter Tryd.func9, Tryd.ntmps9
    go_wp2_with (first
      | (go_at_call 17; refine HSZ.out.mono ?_; rintro e w1 ⟨rfl, hb1⟩; have HB1 := Aside0.mk hb1; clear hb1)
      | (go_at_call 18; refine (works_any _ (HT.out.below HB1.out)).mono ?_; rintro e w4 ⟨rfl, hb4⟩; have HB4 := Aside0.mk (HB1.out.trans (hb4.mono HB1.out.size)); clear hb4))
    go_ret
    exact ⟨rfl, HB4.out⟩
  by_cases h2 : 100 < n
  · go_enter Tryd.func9, Tryd.ntmps9
    go_wp2_with (first
      | (go_at_call 17; refine HSZ.out.mono ?_; rintro e w1 ⟨rfl, hb1⟩; have HB1 := Aside0.mk hb1; clear hb1)
      | (go_at_call 18; refine (works_any _ (HT.out.below HB1.out)).mono ?_; rintro e w4 ⟨rfl, hb4⟩; have HB4 := Aside0.mk (HB1.out.trans (hb4.mono HB1.out.size)); clear hb4))
    go_ret
    exact ⟨rfl, HB4.out⟩
  by_cases h3 : 100 < nb
  · go_enter Tryd.func9, Tryd.ntmps9
    go_wp2_with (first
      | (go_at_call 17; refine HSZ.out.mono ?_; rintro e w1 ⟨rfl, hb1⟩; have HB1 := Aside0.mk hb1; clear hb1)
      | (go_at_call 18; refine (works_any _ (HT.out.below HB1.out)).mono ?_; rintro e w4 ⟨rfl, hb4⟩; have HB4 := Aside0.mk (HB1.out.trans (hb4.mono HB1.out.size)); clear hb4))
    go_ret
    exact ⟨rfl, HB4.out⟩
  have hwf := HSM.out (by omega)
  have HWF := Aside0.mk hwf
  obtain ⟨o, ho⟩ : ∃ o, (newR l).2 = o := ⟨_, rfl⟩
  have HO := Aside0.mk ho
  have HFI := Aside0.mk (show ∀ i s, (findC o i s).1.Wf from ho ▸ newR_find hwf)
  have HGD := Aside0.mk (show ∀ d, o = some d → Good d from fun d hd => newR_good hwf (ho.trans hd))
  have hbyt := HBA.out.byt
  clear hwf ho
  cases o with
  | none =>
    have hx := unpack_none ms b
    obtain ⟨⟨xs, q⟩, hq⟩ : ∃ q, unpackC none ms b = q := ⟨_, rfl⟩
    have HQ := Aside0.mk hq
    rw [hq] at hx
    simp only at hx
    subst hx
    clear hq
    go_enter Tryd.func9, Tryd.ntmps9
    go_wp2_with (first
      | (go_at_call 17; refine HSZ.out.mono ?_; rintro e w1 ⟨rfl, hb1⟩; have HB1 := Aside0.mk hb1; clear hb1)
      | (go_at_call 30; rw [← HNL.out]; refine (both_any w.heap.size l A c w1 (HE.out.below HB1.out) (fun e he => (HWF.out e he).1) (HT.out.below HB1.out) HB1.out.size none HO.out).mono ?_; rw [HNL.out]; rintro e w2 ⟨hb2, rfl⟩; have HB2 := Aside0.mk (HB1.out.trans (hb2.mono HB1.out.size)); have cv0 := str_at (c := cb) (Rd_C (HBA.out.below HB2.out).rd) w2 (Below.refl _ _); rw [HNB.out] at cv0; obtain ⟨cap3, w3, cv1, hin, hb3⟩ := conv_bs w2 hbyt HNB.out (by omega); have HIN := Aside0.mk hin; have HB3 := Aside0.mk hb3; have HW3 := Aside0.mk (HB2.out.trans (hb3.mono HB2.out.size)); clear hin hb3; clear hb2)
      | (go_at_call 27; rw [← HN.out, ← HNB.out]; refine (unpack_any w.heap.size (.pointer none) none ms A2 c2 (some ⟨w2.heap.size, 0, none⟩) cap3 b w3 rfl (HT.out.below HW3.out) (HM.out.below HW3.out) (by have := HN.out; omega) HMW.out HFI.out HIN.out).mono ?_; rw [HQ.out, HN.out, HNB.out]; rintro e w4 ⟨v4, base, rfl, -, hR, hb4⟩; obtain ⟨A4, c4, rfl, -, -⟩ := Kd.R_reads hR; have HW4 := Aside0.mk (HW3.out.trans (hb4.mono HW3.out.size)); have HB4 := Aside0.mk hb4; clear hR hb4)
      | (go_at_call 32; rw [← HN.out]; refine (mplain_any ms A2 c2 w4 (HM.out.below HW4.out) (by have := HN.out; omega)).mono ?_; rw [HN.out]; rintro e w5 ⟨A5, c5, rfl, -, hm5, hb5⟩; have HW5 := Aside0.mk (HW4.out.trans (hb5.mono HW4.out.size)); have HB5 := Aside0.mk hb5; have HM5 := Aside0.mk hm5; clear hb5 hm5)
      | (go_at_call 36; rw [← HN.out, ← HNB.out]; refine (runpack_any (.pointer none) none ms A5 c5 Ab cb b w5 rfl HM5.out (by have := HN.out; omega) HMW.out HFI.out (HBA.out.below HW5.out)).mono ?_; rw [HQ.out, HN.out, HNB.out]; rintro e w6 ⟨v6, base6, rfl, -, hR, hb6⟩; obtain ⟨A6, c6, rfl, -, -⟩ := Kd.R_reads hR; have HW6 := Aside0.mk (HW5.out.trans (hb6.mono HW5.out.size)); have HB36 := Aside0.mk (HB4.out.trans ((HB5.out.trans (hb6.mono HB5.out.size)).mono HB4.out.size)); clear hR hb6))
    go_loopw [14] (fun i wr => i = .int .i64 0 ∧ wr = w6) (fun _ _ => 0)
    case atStart => exact ⟨rfl, rfl⟩
    case round =>
      obtain ⟨rfl, rfl⟩ := hrel
      go_wp2_with (first
        | (go_at_call 24; rw [← HN.out, ← HNB.out]; refine (mwrite_nil w.heap.size ms A2 c2 (some ⟨w2.heap.size, 0, none⟩) cap3 b _ (HT.out.below HW6.out) (HM.out.below HW6.out) (by have := HN.out; omega) HMW.out (HIN.out.below HB36.out)).mono ?_; rw [HQ.out]; rintro e w7 ⟨rfl, hb7⟩; have HW7 := Aside0.mk (HW6.out.trans (hb7.mono HW6.out.size)); clear hb7)
        | (go_at_call 18; refine (works_any _ (HT.out.below HW7.out)).mono ?_; rintro e w8 ⟨rfl, hb8⟩; have HW8 := Aside0.mk (HW7.out.trans (hb8.mono HW7.out.size)); clear hb8))
      go_ret
      exact ⟨rfl, HW8.out⟩
  | some d =>
    have HGO := Aside0.mk (HGD.out d rfl)
    obtain ⟨hok, hlen⟩ := unpack_ok (o := some d) (b := b) HMW.out
    obtain ⟨⟨xs, q⟩, hq⟩ : ∃ q, unpackC (some d) ms b = q := ⟨_, rfl⟩
    have HQ := Aside0.mk hq
    rw [hq] at hok hlen
    simp only at hok hlen
    have HOK := Aside0.mk hok
    have hxl : xs.length ≤ 100 := by have := HN.out; omega
    obtain ⟨nx, hnx⟩ : ∃ nx, xs.length = nx := ⟨_, rfl⟩
    have HNX := Aside0.mk hnx
    have HGW := Aside0.mk (good_writes HGO.out hok)
    rw [hnx] at hxl
    clear hq hok hlen hnx
    go_enter Tryd.func9, Tryd.ntmps9
    go_wp2_with (first
      | (go_at_call 17; refine HSZ.out.mono ?_; rintro e w1 ⟨rfl, hb1⟩; have HB1 := Aside0.mk hb1; clear hb1)
      | (go_at_call 30; rw [← HNL.out]; refine (both_any w.heap.size l A c w1 (HE.out.below HB1.out) (fun e he => (HWF.out e he).1) (HT.out.below HB1.out) HB1.out.size (some d) HO.out).mono ?_; rw [HNL.out]; intro e w2 hs; obtain ⟨gd, bi, bs, gr, gA, rfl, h2, hb2⟩ := both_w (hs.1.size |> fun _ => hs) HB1.out.size; have HB2 := Aside0.mk (HB1.out.trans (hb2.mono HB1.out.size)); have HD2 := Aside0.mk h2; have cv0 := str_at (c := cb) (Rd_C (HBA.out.below HB2.out).rd) w2 (Below.refl _ _); rw [HNB.out] at cv0; obtain ⟨cap3, w3, cv1, hin, hb3⟩ := conv_bs w2 hbyt HNB.out (by omega); have HIN := Aside0.mk hin; have HB3 := Aside0.mk hb3; have HW3 := Aside0.mk (HB2.out.trans (hb3.mono HB2.out.size)); clear hin hb3; have HD3 := Aside0.mk (HD2.out.below HB3.out); clear hb2 h2 hs)
      | (go_at_call 27; rw [← HN.out, ← HNB.out]; refine (unpack_raw w.heap.size (.pointer (some ⟨gd, 0, none⟩)) (some d) ms A2 c2 (some ⟨w2.heap.size, 0, none⟩) cap3 b w3 (HD3.out.two).d (HT.out.below HW3.out) (HM.out.below HW3.out) (by have := HN.out; omega) HMW.out HFI.out HIN.out).mono ?_; rw [HQ.out, HN.out, HNB.out]; rintro e w4 ⟨v4, base, rfl, hbase, ⟨rs, hR, hV⟩, hb4⟩; have HR4 := Aside0.mk hR; have HV4 := Aside0.mk hV; have HBS := Aside0.mk hbase; obtain ⟨A4, c4, rfl, -, -⟩ := Kd.R_reads hR; rw [show rs.length = nx from hV.1.trans HNX.out] at HR4 ⊢; have HW4 := Aside0.mk (HW3.out.trans (hb4.mono HW3.out.size)); have HB4 := Aside0.mk hb4; clear hR hV hbase hb4)
      | (go_at_call 32; rw [← HN.out]; refine (mplain_any ms A2 c2 w4 (HM.out.below HW4.out) (by have := HN.out; omega)).mono ?_; rw [HN.out]; rintro e w5 ⟨A5, c5, rfl, -, hm5, hb5⟩; have HW5 := Aside0.mk (HW4.out.trans (hb5.mono HW4.out.size)); have HB5 := Aside0.mk hb5; have HM5 := Aside0.mk hm5; clear hb5 hm5)
      | (go_at_call 36; rw [← HN.out, ← HNB.out]; refine (runpack_any (.pointer (some ⟨gr, 0, none⟩)) (some d) ms A5 c5 Ab cb b w5 ((HD3.out.below (HB4.out.trans (HB5.out.mono HB4.out.size))).two).m HM5.out (by have := HN.out; omega) HMW.out HFI.out (HBA.out.below HW5.out)).mono ?_; rw [HQ.out, HN.out, HNB.out]; rintro e w6 ⟨v6, base6, rfl, hbase6, hR, hb6⟩; have HR6 := Aside0.mk hR; have HBS6 := Aside0.mk hbase6; obtain ⟨A6, c6, rfl, -, -⟩ := Kd.R_reads hR; rw [HNX.out] at HR6 ⊢; have HW6 := Aside0.mk (HW5.out.trans (hb6.mono HW5.out.size)); have HB46 := Aside0.mk (HB5.out.trans (hb6.mono HB5.out.size)); clear hR hb6 hbase6))
    clear cv0 cv1
    obtain ⟨hVl, gs, hgs, hVx⟩ := HV4.out
    have HVX := Aside0.mk (show (∀ i j, i < j → j < nx → gs i < gs j) ∧ ∀ i x, xs[i]? = some x → rs[i]? = some [.int .u16 x.1.1, .int .u8 x.1.2, .slice (some ⟨gs i, 0, none⟩) x.2.length x.2.length] ∧ Num.RowB w4 (gs i) x.2 ∧ base ≤ gs i from ⟨fun i j hij hj => hgs i j hij (by rw [HNX.out]; exact hj), hVx⟩)
    have HRL := Aside0.mk (show rs.length = nx from hVl.trans HNX.out)
    clear hVl hgs hVx
    go_loopw [14] (fun iv wr => ∃ (i : Nat), i ≤ nx ∧ iv = .int .i64 i ∧ Aside0 (Fr (fun k => ∃ j, j < i ∧ gs j = k) w6 wr)) (fun iv _ => nx - (intOf iv).toNat)
    case atStart => exact ⟨0, Nat.zero_le _, rfl, ⟨Fr.refl _ _⟩⟩
    case round =>
      obtain ⟨i, hi, rfl, HF⟩ := hrel
      have hg4 : ∀ j, j < nx → gs j < w4.heap.size ∧ base ≤ gs j := by
        intro j hj
        obtain ⟨-, q2, q3⟩ := HVX.out.2 j _ (List.getElem?_eq_getElem (by rw [HNX.out]; exact hj))
        exact ⟨blk_lt q2, q3⟩
      have HG4 := Aside0.mk hg4
      clear hg4
      by_cases hlt : i < nx
      · obtain ⟨x, hx⟩ : ∃ x, xs[i]? = some x := ⟨_, List.getElem?_eq_getElem (by rw [HNX.out]; exact hlt)⟩
        obtain ⟨hrs, hrb, hbg⟩ := HVX.out.2 i x hx
        have hokx := HOK.out x (List.mem_of_getElem? hx)
        obtain ⟨gv, cap4, hv4, -, -, cellsV, hcV⟩ := Kd.R_form HR4.out (by rw [HRL.out]; omega)
        obtain ⟨-, -, hC4⟩ := Kd.R_reads' HR4.out
        injection hv4 with e1 _ e3
        subst e1 e3
        obtain ⟨ad, ead, hcc⟩ := hC4.2.2 (by rw [HRL.out]; omega)
        injection ead with ead
        subst ead
        obtain ⟨cc, -, ⟨rfl, -, -⟩, hcell⟩ := hcc i _ hrs
        have hgv : ∀ j, j < nx → gs j ≠ gv := by
          intro j hj e
          obtain ⟨-, q2, -⟩ := HVX.out.2 j _ (List.getElem?_eq_getElem (by rw [HNX.out]; exact hj))
          unfold Num.RowB at q2
          rw [e, hcV] at q2
          injection q2 with q2
          injection q2 with _ q2 _
          exact absurd q2 (by decide)
        have hyc : ∀ (t : Nat) u, [Value.int .u16 x.1.1, .int .u8 x.1.2, .slice (some ⟨gs i, 0, none⟩) x.2.length x.2.length][t]? = some u → wr.cell? ⟨gv, i * 3 + t, none⟩ = some u := by
          intro t u hu
          refine HF.out.cell (pw_cell_below HB46.out ?_) (fun ⟨j, hj, e⟩ => hgv j (by omega) e)
          rw [← show (⟨gv, 0, none⟩ : Addr).add (i * 3 + t) = ⟨gv, i * 3 + t, none⟩ from add_plain _ _]
          exact hcell t u hu
        have hrow : Num.RowB wr (gs i) x.2 := (HF.out.block (gs i) (Nat.lt_of_lt_of_le (blk_lt hrb) HB46.out.size) (fun ⟨j, hj, e⟩ => by have := HVX.out.1 j i hj hlt; omega)).trans (blk_below hrb HB46.out)
        have HRQ := R_fr HR6.out HF.out (fun k hk ⟨j, hj, e⟩ => by have h1 := (HG4.out j (by omega)).1; have h2 := HBS6.out; have h3 := HB5.out.size; omega)
        have hgx : xs[i]?.getD zVl = x := by rw [hx]; rfl
        obtain ⟨gq, capq, A7, c7, hv6, z0, z1, z2, ha7⟩ := rvl_at HRQ i (by rw [HNX.out]; exact hlt) (by rw [hgx]; exact hokx)
        rw [hgx] at z0 z1 z2 ha7
        injection hv6 with e1 _ e3
        subst e1 e3
        obtain ⟨⟨ix, sub⟩, zs⟩ := x
        simp only at hyc hrow z0 z1 z2 ha7 hokx
        obtain ⟨m, hm⟩ : ∃ m, zs.length = m := ⟨_, rfl⟩
        have hml2 : m ≤ 1000 := by rw [← hm]; exact hokx.2.2.2
        rw [hm] at hyc z2 ha7
        have y0 := hyc 0 _ rfl
        have y1 := hyc 1 _ rfl
        have y2 := hyc 2 _ rfl
        rw [Nat.add_zero] at y0
        have u0 : ∀ X, Below wr.heap.size wr X → _ := fun X hX => pw_cell_below hX y0
        have u1 : ∀ X, Below wr.heap.size wr X → _ := fun X hX => pw_cell_below hX y1
        have u2 : ∀ X, Below wr.heap.size wr X → _ := fun X hX => pw_cell_below hX y2
        have u3 : ∀ X, Below wr.heap.size wr X → _ := fun X hX => pw_cell_below hX z0
        have u4 : ∀ X, Below wr.heap.size wr X → _ := fun X hX => pw_cell_below hX z1
        have u5 : ∀ X, Below wr.heap.size wr X → _ := fun X hX => pw_cell_below hX z2
        have c1 : ∀ X, Below wr.heap.size wr X → (convert 34 9 (.slice (some ⟨gs i, 0, none⟩) m m)).run Tryd.prog X = .ok (.string (strOfNums zs)) X := fun X hX => str_row2 (show Num.RowB X (gs i) zs from blk_below hrow hX) hm hml2
        have c2' : ∀ X, Below wr.heap.size wr X → (convert 34 9 (.slice A7 m c7)).run Tryd.prog X = .ok (.string (strOfNums zs)) X := fun X hX => by
          have h1 := ha7
          rw [← hm] at h1
          have h2 := str_argv h1 X hX
          rw [hm] at h2
          exact h2
        have hS0 : Below wr.heap.size wr wr.drew := below_drew (Below.refl _ _)
        have hi1 : (i : Int) < (nx : Int) := by omega
        have HY2 := Aside0.mk y2
        have HROW := Aside0.mk hrow
        have HGV := Aside0.mk (hgv i hlt)
        have HM2 := Aside0.mk hm
        clear y0 y1 y2 z0 z1 z2 hx hrs hrb hbg hokx hcV hC4 hcc hcell hgv hyc hrow HRQ hgx ha7 hm
        go_wp2
        go_region_held3 (fun X => Below wr.heap.size wr X) (first | assumption | exact hS0) (fail)
        go_wp2
        clear u0 u1 u2 u3 u4 u5 c1 c2' hS0
        rename World => w0
        go_loopw [15] (fun kv wj => ∃ (k : Nat), k ≤ m ∧ kv = .int .i64 k ∧ Aside0 (∃ ys, ys.length = m ∧ Num.RowB wj (gs i) ys) ∧ Aside0 (Fr (fun q => q = gs i) w0 wj)) (fun kv _ => m - (intOf kv).toNat)
        case atStart => exact ⟨0, Nat.zero_le _, rfl, ⟨zs, HM2.out, HROW.out⟩, ⟨Fr.drew _ _⟩⟩
        case round =>
          rename World => wi
          obtain ⟨k, hk, rfl, HZ, HFI⟩ := hrel
          have y2 : wi.cell? ⟨gv, i * 3 + 2, none⟩ = some (.slice (some ⟨gs i, 0, none⟩) m m) := HFI.out.cell HY2.out (fun e => HGV.out (Eq.symm e))
          by_cases hkm : k < m
          · obtain ⟨ys, hyl, hrow⟩ := HZ.out
            obtain ⟨hcl, hfz⟩ := hrow.cell k (by omega)
            have HR := Aside0.mk hrow
            have HYL := Aside0.mk hyl
            generalize ys[k]?.getD 0 = z at hcl
            have hk1 : (k : Int) < (m : Int) := by omega
            clear hyl hrow
            go_wp2
            go_roundw
            case rel => exact ⟨k + 1, by omega, by go_num, ⟨_, by rw [List.length_set]; exact HYL.out, HR.out.put k _⟩, ⟨HFI.out.trans (Fr.setCell (M := fun q => q = gs i) _ _ _ (.inl rfl))⟩⟩
            case measure => simp [intOf]; omega
          · have hk1 : ¬ (k : Int) < (m : Int) := by omega
            go_wp2
            go_roundw
            case rel => exact ⟨i + 1, by omega, by go_num, ⟨(HF.out.mono (fun k ⟨j, hj, e⟩ => ⟨j, by omega, e⟩)).trans (HFI.out.mono (fun k e => ⟨i, by omega, Eq.symm e⟩))⟩⟩
            case measure => simp [intOf]; omega
      · obtain rfl : i = nx := by omega
        have hi1 : ¬ (i : Int) < (i : Int) := by omega
        have HB3R := Aside0.mk ((HB4.out.trans (HB46.out.mono HB4.out.size)).trans (HF.out.below (B := w3.heap.size) (fun jj hjj => ⟨by have h1 := HB4.out.size; have h2 := HB46.out.size; omega, fun ⟨j, hj, e⟩ => by have h1 := (HG4.out j hj).2; have h2 := HBS.out; omega⟩)))
        have HWR := Aside0.mk (HW3.out.trans (HB3R.out.mono HW3.out.size))
        have HDR := Aside0.mk (HD3.out.below HB3R.out)
        have HINR := Aside0.mk (show ArgV wr (.slice (some ⟨w2.heap.size, 0, none⟩) b.length cap3) b from ⟨_, _, rfl, HIN.out.below HB3R.out, by have := HNB.out; omega⟩)
        have hge := HDR.out.1.ge
        have hgr := HDR.out.2.1.1
        have hgr2 := HDR.out.2.1.2.2.2.choose_spec.1.ge.1
        clear hlt
        go_wp2_with (first
          | (go_at_call 34; (first
              | refine (same_two HDR.out HGO.out).mono ?_; rintro e wa ⟨rfl, hba⟩; have HBa := Aside0.mk hba; have HWa := Aside0.mk (HWR.out.trans (hba.mono HWR.out.size)); clear hba
              | refine (same_two HDD.out HGW.out).mono ?_; rintro e we ⟨rfl, hbe⟩; have HWe := Aside0.mk (HWd.out.trans (hbe.mono HWd.out.size)); have cvA := str_argv (HINd.out.below hbe) we (Below.refl _ _); have cvB := str_at (c := cb) (Rd_C (HBA.out.below HWe.out).rd) we (Below.refl _ _); rw [HNB.out] at cvA cvB; clear hbe))
          | (go_at_call 24; rw [← HN.out, ← HNB.out]; refine (mwrite_any w.heap.size gd bi bs d HGO.out ms A2 c2 (some ⟨w2.heap.size, 0, none⟩) cap3 b wa (HDR.out.below HBa.out).1 (TblB.below HT.out HWa.out) (HM.out.below HWa.out) (by have := HN.out; omega) HMW.out (argv_arg (HINR.out.below HBa.out))).mono ?_; rw [HQ.out, HN.out, HNB.out]; rintro e wb ⟨rfl, hdb, hfb⟩; have hkb := keep_noByte hfb (HDR.out.below HBa.out).1.noByte; have HDb := Aside0.mk hdb; have HRb := Aside0.mk ((HDR.out.below HBa.out).2.1.kp hfb hkb (fun e => e.elim HDR.out.2.2.1.1 HDR.out.2.2.1.2.1) (fun e => e.elim HDR.out.2.2.2.1 HDR.out.2.2.2.2.1)); have HWb := Aside0.mk (HWa.out.trans (hfb.below (B := w.heap.size) (fun jj hjj => ⟨Nat.lt_of_lt_of_le hjj HWa.out.size, fun e => by rcases e with e | e <;> omega⟩))); have HINb := Aside0.mk ((HINR.out.below HBa.out).keep hkb); clear hdb hfb hkb)
          | (go_at_call 32; rw [← HN.out]; refine (mplain_any ms A2 c2 wb (HM.out.below HWb.out) (by have := HN.out; omega)).mono ?_; rw [HN.out]; rintro e wc ⟨Ac, cc, rfl, -, hmc, hbc⟩; have HBc := Aside0.mk hbc; have HWc := Aside0.mk (HWb.out.trans (hbc.mono HWb.out.size)); have HMc := Aside0.mk hmc; clear hbc hmc)
          | (go_at_call 37; rw [← HN.out, ← HNB.out]; refine (rmwrite_any w.heap.size gr gA d HGO.out ms Ac cc Ab cb b wc (HRb.out.below HBc.out) HMc.out (by have := HN.out; omega) HMW.out (HBA.out.below HWc.out)).mono ?_; rw [HQ.out, HN.out, HNB.out]; rintro e wd ⟨rfl, hrd, hfd, hkd⟩; have HDD := Aside0.mk (show TwoW w.heap.size wd gd bi bs gr gA (writesC d xs) from ⟨(HDb.out.below HBc.out).kp hfd hkd (fun e => e.elim (fun e => HDR.out.2.2.1.1 (Eq.symm e)) (fun e => HDR.out.2.2.2.1 (Eq.symm e))) (fun e => e.elim (fun e => HDR.out.2.2.1.2.1 (Eq.symm e)) (fun e => HDR.out.2.2.2.2.1 (Eq.symm e))) (fun e => e.elim (fun e => HDR.out.2.2.1.2.2 (Eq.symm e)) (fun e => HDR.out.2.2.2.2.2 (Eq.symm e))), hrd, HDR.out.2.2⟩); have HWd := Aside0.mk (HWc.out.trans (hfd.below (B := w.heap.size) (fun jj hjj => ⟨Nat.lt_of_lt_of_le hjj HWc.out.size, fun e => by rcases e with e | e <;> omega⟩))); have HINd := Aside0.mk ((HINb.out.below HBc.out).keep hkd); clear hrd hfd hkd)
          | (go_at_call 18; refine (works_any _ (HT.out.below HWe.out)).mono ?_; rintro e wz ⟨rfl, hbz⟩; have HWz := Aside0.mk (HWe.out.trans (hbz.mono HWe.out.size)); clear hbz))
        go_ret
        exact ⟨rfl, HWz.out⟩
end Go.Proofs.YtokebpeplopjhaaDoor.Mp
