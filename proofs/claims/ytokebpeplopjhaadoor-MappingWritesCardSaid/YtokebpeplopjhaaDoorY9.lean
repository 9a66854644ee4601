/- The document's Size of a mapping. The law's plain: a mapping as the document has it. dict.Changes. mapping.Unpack. mapping.Write. mapping.Of and Number. The law's entries. The law's three entries and their mapping. What dict.New makes is good; the law's dictionary, plainly. The law's examples work. The law's same. Rows of items as rows of raw cells (for appends). An insertion into the document's items, plainly. -/
import Derived.Test.YtokebpeplopjhaaDoorY8
import Derived.Deep.RegionHeld3
import Derived.Shelf.Spec.TrailingZeros
import Derived.Laws.Bits64b
namespace Go.Proofs.YtokebpeplopjhaaDoor.Mp
open Go.RowKit Go.Shelf Go.Proofs.YtokebpeplopjhaaDoor.Rng Go.Proofs.YtokebpeplopjhaaDoorW.PrintWords Go.Proofs.YtokebpeplopjhaaDoorW.PrintMore Go.Proofs.YtokebpeplopjhaaDoorW.PrintLast

set_option maxRecDepth 100000 in
set_option maxHeartbeats 2000000 in
theorem rmsize_any (l : List Mp) (A : Option Addr) (c : Nat) (w : World) (h : MsAt w A l) (hl : l.length ≤ 1000000) (hb : ∀ m ∈ l, 0 ≤ m.bits) (hs : sumC l ≤ 64) :
    Calls Tryd.prog 33 #[.slice A l.length c] w fun e w' => e = .returned (.int .i64 (sizeC l : Nat)) ∧ Below w.heap.size w w' := by
  have HM := Aside0.mk h
  have HBT := Aside0.mk hb
  obtain ⟨n, hn⟩ : ∃ n, l.length = n := ⟨_, rfl⟩
  have HN := Aside0.mk hn
  have HS := Aside0.mk hs
  rw [hn] at hl ⊢
  clear h hb hn hs
  go_enter Tryd.func33, Tryd.ntmps33
  go_wp2
  go_loopw [3, 4] (fun sm i wr => ∃ (k : Nat), k ≤ n ∧ i = .int .i64 k ∧ sm = .int .i64 (sumC (l.take k)) ∧ Aside0 (Below w.heap.size w wr)) (fun _ i _ => n - (intOf i).toNat)
  case atStart => exact ⟨0, Nat.zero_le _, rfl, rfl, ⟨Below.refl _ _⟩⟩
  case round =>
    obtain ⟨k, hk, rfl, rfl, HB⟩ := hrel
    have hsb := sumC_le HBT.out k
    have hs64 := HS.out
    by_cases hlt : k < n
    · obtain ⟨m, hm⟩ : ∃ m, l[k]? = some m := ⟨_, List.getElem?_eq_getElem (by rw [HN.out]; exact hlt)⟩
      obtain ⟨ad, rfl, y0, y1, y2⟩ := HM.out.below HB.out k m hm
      have hst := sumC_take l k m hm
      have hsb2 := sumC_le HBT.out (k + 1)
      rw [hst] at hsb2
      have HST := Aside0.mk hst
      obtain ⟨s, hse⟩ : ∃ s, sumC (l.take k) = s := ⟨_, rfl⟩
      rw [hse] at hsb hsb2 HST ⊢
      have hq : 0 ≤ s + m.bits ∧ s + m.bits ≤ 64 := by omega
      have hq2 : 0 ≤ m.bits ∧ m.bits ≤ 64 := by have := HBT.out m (List.mem_of_getElem? hm); omega
      have hq3 : 0 ≤ s ∧ s ≤ 64 := by omega
      clear hsb2 hsb hs64 hm hse hst
      go_wp2
      go_roundw
      case rel => exact ⟨k + 1, by omega, by go_num, by rw [HST.out], HB⟩
      case measure => simp [intOf]; omega
    · obtain rfl : k = n := by omega
      have hz : sumC (l.take k) = sumC l := by rw [List.take_of_length_le (by rw [HN.out]; exact Nat.le_refl _)]
      rw [hz] at hsb ⊢
      go_wp2
      go_ret
      refine ⟨ret_i ?_, HB.out⟩
      unfold sizeC
      rw [Int.toNat_of_nonneg (by omega)]
end Go.Proofs.YtokebpeplopjhaaDoor.Mp
namespace Go.Proofs.YtokebpeplopjhaaDoor.Mp
open Go.RowKit Go.Shelf Go.Proofs.YtokebpeplopjhaaDoor.Rng Go.Proofs.YtokebpeplopjhaaDoorW.PrintWords Go.Proofs.YtokebpeplopjhaaDoorW.PrintMore Go.Proofs.YtokebpeplopjhaaDoorW.PrintLast

/-- The document's Maps as a kind of elements. -/
abbrev kQ : Kd ((Int × Int) × Int) := Kd.pair (Kd.pair (Kd.int .u16) (Kd.int .u8)) (Kd.int .i64)
def qT (m : Mp) : (Int × Int) × Int := ((m.ix, m.sub), m.bits)
theorem info_q : (Tryd.prog.info? 146).map (fun i => (i.zero, i.size, i.bytes)) = some (some (.agg #[.int .u16 0, .int .u8 0, .int .i64 0]), 3, 16) := by kernel_rfl
theorem qs_of_C {w : World} {A : Option Addr} {l : List Mp} (h : kQ.C w A l.length (l.map qT)) : MsAt w A l := by
  intro j m hj
  have hjl : j < l.length := (List.getElem?_eq_some_iff.1 hj).1
  obtain ⟨ad, hA, hc⟩ := h.2.2 (by omega)
  obtain ⟨c, hcl, hK, hcell⟩ := hc j (qT m) (by simp [hj])
  obtain ⟨_, _, rfl, ⟨_, _, rfl, rfl, rfl⟩, rfl⟩ := hK
  refine ⟨ad, hA, hcell 0 _ rfl, ?_, ?_⟩
  · rw [← add_field _ _ 1 (by omega)]
    exact hcell 1 _ rfl
  · rw [← add_field _ _ 2 (by omega)]
    exact hcell 2 _ rfl
theorem qs_of_R {w : World} {e base : Nat} {ok : Nat → Prop} {v : Value} {l : List Mp} (h : Kd.R kQ e w base ok v (l.map qT)) : ∃ A c, v = .slice A l.length c ∧ l.length ≤ c ∧ MsAt w A l := by
  obtain ⟨A, c, rfl, hl, hC⟩ := Kd.R_reads h
  rw [List.length_map] at hl hC ⊢
  exact ⟨A, c, rfl, hl, qs_of_C hC⟩
theorem keepQ {w W : World} {ad : Addr} {l : List Mp} {k : Nat} {m : Mp} (h : MsAt w (some ad) l) (hk : l[k]? = some m) (hb : Below w.heap.size w W) : W.cell? (ad.add (k * 3)) = some (.int .u16 m.ix) ∧ W.cell? ⟨(ad.add (k * 3)).block, (ad.add (k * 3)).off + 1, none⟩ = some (.int .u8 m.sub) ∧ W.cell? ⟨(ad.add (k * 3)).block, (ad.add (k * 3)).off + 2, none⟩ = some (.int .i64 m.bits) := by
  obtain ⟨ad', e, h1, h2, h3⟩ := (h.below hb) k m hk
  injection e with e
  subst e
  exact ⟨h1, h2, h3⟩
set_option maxRecDepth 100000 in
set_option maxHeartbeats 2000000 in
theorem mplain_any (l : List Mp) (A : Option Addr) (c : Nat) (w : World) (h : MsAt w A l) (hl : l.length ≤ 1000) :
    Calls Tryd.prog 32 #[.slice A l.length c] w fun e w' => ∃ A' c', e = .returned (.slice A' l.length c') ∧ l.length ≤ c' ∧ MsAt w' A' l ∧ Below w.heap.size w w' := by
  have HM := Aside0.mk h
  obtain ⟨n, hn⟩ : ∃ n, l.length = n := ⟨_, rfl⟩
  have HN := Aside0.mk hn
  rw [hn] at hl ⊢
  clear h hn
  go_enter Tryd.func32, Tryd.ntmps32
  go_wp2
  go_loopw [3, 4] (fun v3 iv wr => ∃ k : Nat, k ≤ n ∧ iv = .int .i64 k ∧ Aside0 (Kd.R kQ 146 wr w.heap.size (fun _ => True) v3 ((l.take k).map qT)) ∧ Aside0 (Below w.heap.size w wr)) (fun _ iv _ => n - (intOf iv).toNat)
  case atStart => exact ⟨0, Nat.zero_le _, rfl, ⟨Kd.R_nil _ _ _ _ _⟩, ⟨Below.refl _ _⟩⟩
  case round =>
    obtain ⟨k, hk, rfl, HR, HB⟩ := hrel
    by_cases hlt : k < n
    · obtain ⟨m, hm⟩ : ∃ m, l[k]? = some m := ⟨_, List.getElem?_eq_getElem (by rw [HN.out]; exact hlt)⟩
      obtain ⟨ad, rfl, y0, y1, y2⟩ := HM.out.below HB.out k m hm
      have HTK := Aside0.mk (show (l.take (k + 1)).map qT = (l.take k).map qT ++ [qT m] by rw [List.take_add_one, hm]; simp)
      have hlen : ((l.take k).map qT).length ≤ 1000 := by simp; omega
      have hi1 : (k : Int) < (n : Int) := by omega
      have HMK := Aside0.mk hm
      clear hm
      have HY := Aside0.mk (show wr.cell? (ad.add (k * 3)) = some (.int .u16 m.ix) ∧ wr.cell? ⟨(ad.add (k * 3)).block, (ad.add (k * 3)).off + 1, none⟩ = some (.int .u8 m.sub) ∧ wr.cell? ⟨(ad.add (k * 3)).block, (ad.add (k * 3)).off + 2, none⟩ = some (.int .i64 m.bits) from ⟨y0, y1, y2⟩)
      go_wp2
      go_region_held3 (fun X => X.cell? (ad.add (k * 3)) = some (.int .u16 m.ix) ∧ X.cell? ⟨(ad.add (k * 3)).block, (ad.add (k * 3)).off + 1, none⟩ = some (.int .u8 m.sub) ∧ X.cell? ⟨(ad.add (k * 3)).block, (ad.add (k * 3)).off + 2, none⟩ = some (.int .i64 m.bits)) (first | assumption | go_keep | exact keepQ HM.out HMK.out HBA.out)
        (go_loud (refine Kd.R_append_step kQ (w0 := w) (W := wr.drew) w.heap.size (by rfl) (.tmp 11) (.tmp 23) 63 146 (.agg #[.int .u16 0, .int .u8 0, .int .i64 0]) 16 rfl Tryd.underlying63 info_q rfl (by decide) (by decide) _ ((l.take k).map qT) (qT m) [.int .u16 m.ix, .int .u8 m.sub, .int .i64 m.bits] (fun _ => True) (fun _ => False) rfl rfl ⟨_, _, rfl, ⟨_, _, rfl, rfl, rfl⟩, rfl⟩ (fun _ h => h.elim) (fun _ _ => trivial) (Kd.R_drew HR.out) (below_drew HB.out) HB.out.size (by omega) ?_; intro v1 wA hown hb hg hat; have HBA := Aside0.mk hb; have HRA := Aside0.mk hown; clear hown hb hg hat))
      go_wp2
      go_roundw
      case rel => exact ⟨k + 1, by omega, by go_num, ⟨by rw [HTK.out]; exact HRA.out⟩, HBA⟩
      case measure => simp [intOf]; omega
    · obtain rfl : k = n := by omega
      have ht : l.take k = l := List.take_of_length_le (by rw [HN.out]; exact Nat.le_refl _)
      have HR2 := HR.out
      rw [ht] at HR2
      obtain ⟨A', c', rfl, hl', hm'⟩ := qs_of_R HR2
      rw [HN.out] at hl' ⊢
      clear HR2 ht
      go_wp2
      go_ret
      exact ⟨_, _, rfl, hl', hm', HB.out⟩
end Go.Proofs.YtokebpeplopjhaaDoor.Mp
namespace Go.Proofs.YtokebpeplopjhaaDoor.Mp
open Go.RowKit Go.Shelf Go.Proofs.YtokebpeplopjhaaDoor.Rng Go.Proofs.YtokebpeplopjhaaDoorW.PrintWords Go.Proofs.YtokebpeplopjhaaDoorW.PrintMore Go.Proofs.YtokebpeplopjhaaDoorW.PrintLast

theorem changes_any (B : Nat) (v : Value) (d : DD) (w : World) (h : DictV B w v (some d)) : Calls Tryd.prog 69 #[v] w fun e w' => e = .returned (.int .i64 d.c) ∧ w' = w := by
  obtain ⟨g, rfl, bi, bs, n, m, fi, fs, hd⟩ := h
  obtain ⟨-, -, g2, -⟩ := held3 hd.blk
  clear hd
  go_enter Tryd.func69, Tryd.ntmps69
  go_wp2
  go_ret
  exact ⟨rfl, rfl⟩
end Go.Proofs.YtokebpeplopjhaaDoor.Mp
namespace Go.Proofs.YtokebpeplopjhaaDoor.Mp
open Go.RowKit Go.Shelf Go.Proofs.YtokebpeplopjhaaDoor.Rng Go.Proofs.YtokebpeplopjhaaDoorW.PrintWords Go.Proofs.YtokebpeplopjhaaDoorW.PrintMore Go.Proofs.YtokebpeplopjhaaDoorW.PrintLast

/-- A value for a place. -/
abbrev Vl := (Int × Int) × List Int
abbrev kV : Kd Vl := Kd.pair (Kd.pair (Kd.int .u16) (Kd.int .u8)) (Kd.slice 5 kB)
def outV (b : List Int) (at_ n : Nat) : List Int := pkL (bitsL b at_ n) ((n + 7) / 8)
def unpA (o : Option DD) (b : List Int) : List Mp → Nat → List Vl → List Vl × Int
  | [], _, acc => (acc, 0)
  | m :: r, at_, acc => if gapC m then unpA o b r (at_ + m.bits.toNat) acc
    else if (mayW o m.ix m.sub (outV b at_ m.bits.toNat)).2 ≠ 0 then ([], (mayW o m.ix m.sub (outV b at_ m.bits.toNat)).2)
    else unpA o b r (at_ + m.bits.toNat) (acc ++ [((m.ix, m.sub), outV b at_ m.bits.toNat)])
def unpackC (o : Option DD) (l : List Mp) (b : List Int) : List Vl × Int :=
  if checkC o l false ≠ 0 then ([], checkC o l false) else if b.length < sizeC l then ([], 0x06070010) else unpA o b l 0 []
theorem info_v : (Tryd.prog.info? 36).map (fun i => (i.zero, i.size, i.bytes)) = some (some (.agg #[.int .u16 0, .int .u8 0, .slice none 0 0]), 3, 32) := by kernel_rfl
theorem R_fr {α : Type} {d : Kd α} {e base : Nat} {v : Value} {xs : List α} {M : Nat → Prop} {w W : World} (h : Kd.R d e w base (fun _ => True) v xs) (hf : Fr M w W) (hM : ∀ k, base ≤ k → ¬ M k) : Kd.R d e W base (fun _ => True) v xs :=
  Kd.R_mono (Kd.R_step (Kd.R_bound h) (fun k hk hlt => hf.block k hlt (hM k hk.2.1))) (fun _ _ => trivial)
/-- What Unpack tells. -/
def UnpSaid (w : World) (r : List Vl × Int) (e : Ending) (w' : World) : Prop := ∃ v base, e = .returned (.tuple #[v, .int .u32 r.2]) ∧ w.heap.size ≤ base ∧ Kd.R kV 36 w' base (fun _ => True) v r.1 ∧ Below w.heap.size w w'
theorem R_rowB {w : World} {g base : Nat} {zs : List Int} (h : Go.Proofs.YtokebpeplopjhaaDoor.Num.RowB w g zs) (hb : base ≤ g) (hl : zs.length ≤ 1000) : Kd.R kB 5 w base (fun k => k = g) (.slice (some ⟨g, 0, none⟩) zs.length zs.length) zs := by
  refine Kd.R_of_own (enc := Value.int .u8) (h1 := fun _ => rfl) ⟨by simp [encs], .inr ⟨g, zs.length, _, rfl, hb, h, Nat.le_refl _, ?_, by simp, ?_⟩⟩ (fun k hk => ?_)
  · have hmx : maxLen = 9223372036854775807 := rfl
    omega
  · simp only [encs, Nat.mul_one]
    exact List.take_of_length_le (by simp)
  · simp [Value.ownBlock] at hk
    exact hk.symm
theorem rowB_rd {w : World} {g : Nat} {zs : List Int} (h : Go.Proofs.YtokebpeplopjhaaDoor.Num.RowB w g zs) (hl : zs.length ≤ 1000) : Rd w (some ⟨g, 0, none⟩) zs := by
  refine ⟨by omega, fun _ => ⟨_, rfl, fun j hj => ?_⟩⟩
  rw [show (⟨g, 0, none⟩ : Addr).add j = ⟨g, j, none⟩ from add_plain _ _]
  exact (h.cell j hj).1
theorem kV_M {w : World} {g base m : Nat} {ix sub : Int} {zs : List Int} (h : Go.Proofs.YtokebpeplopjhaaDoor.Num.RowB w g zs) (hb : base ≤ g) (hm : zs.length = m) (hl : zs.length ≤ 1000) : kV.M w base (fun k => k = g) ((ix, sub), zs) [.int .u16 ix, .int .u8 sub, .slice (some ⟨g, 0, none⟩) m m] := by
  subst hm
  exact ⟨[.int .u16 ix, .int .u8 sub], [_], rfl, ⟨[.int .u16 ix], [.int .u8 sub], rfl, rfl, rfl⟩, ⟨_, rfl, R_rowB h hb hl⟩⟩
theorem outV_length (b : List Int) (a n : Nat) : (outV b a n).length = (n + 7) / 8 := pkL_length _ _
theorem outV_byt (b : List Int) (a n : Nat) : Byt (outV b a n) := pkL_byt (bits_bitsL _ _ _) _
set_option maxRecDepth 100000 in
set_option maxHeartbeats 4000000 in
theorem unpack_any (B : Nat) (v : Value) (o : Option DD) (l : List Mp) (A : Option Addr) (c : Nat) (Ab : Option Addr) (cb : Nat) (b : List Int) (w : World) (h : DictV B w v o) (ht : Tbl w) (hm : MsAt w A l) (hl : l.length ≤ 1000000) (hmw : ∀ m ∈ l, m.Wf) (hwf : ∀ i s, (findC o i s).1.Wf) (hb : Arg w Ab cb b) :
    Calls Tryd.prog 27 #[v, .slice A l.length c, .slice Ab b.length cb] w (UnpSaid w (unpackC o l b)) := by
  obtain ⟨r, hr⟩ : ∃ r, unpackC o l b = r := ⟨_, rfl⟩
  rw [hr]
  unfold unpackC at hr
  have hb0 : Below w.heap.size w (w.alloc (.cells #[.slice Ab b.length cb] 34)) := below_alloc (Below.refl _ _) _
  have HCK := Aside0.mk (mcheck_any B v o l A c false _ (h.below hb0) (ht.below hb0) (hm.below hb0) hl hmw hwf)
  have HD := Aside0.mk h
  have HT := Aside0.mk ht
  have HM := Aside0.mk hm
  have HMW := Aside0.mk hmw
  have HWF := Aside0.mk hwf
  have HBA := Aside0.mk hb
  have HB0 := Aside0.mk hb0
  have HBX := Aside0.mk (blk_new w (.cells #[.slice Ab b.length cb] 34))
  obtain ⟨q, hq⟩ : ∃ q, checkC o l false = q := ⟨_, rfl⟩
  rw [hq] at hr HCK
  obtain ⟨n, hn⟩ : ∃ n, l.length = n := ⟨_, rfl⟩
  have HN := Aside0.mk hn
  have HQ := Aside0.mk hq
  obtain ⟨nb, hnb⟩ : ∃ nb, b.length = nb := ⟨_, rfl⟩
  have HNB := Aside0.mk hnb
  clear h ht hm hmw hwf hb hb0 hq
  by_cases hq0 : q = 0
  · subst hq0
    rw [if_neg (by simp)] at hr
    have hall : (∀ m ∈ l, oneC o false m = 0) ∧ sumC l ≤ 64 := by
      have h0 := HQ.out
      unfold checkC at h0
      split at h0
      · simp at h0
      · exact check_all (by omega) h0
    have HALL := Aside0.mk hall
    have hbpos : ∀ m ∈ l, 0 ≤ m.bits := fun m hm => by have := one_bits (hall.1 m hm); omega
    have HSZ := Aside0.mk fun W (hW : Below w.heap.size w W) => msize_any l A c W (HM.out.below hW) (by omega) hbpos hall.2
    have HBP := Aside0.mk hbpos
    clear hall hbpos
    rw [hn] at HCK HSZ hl ⊢
    rw [hnb] at hr HCK HBX HB0 ⊢
    go_enter Tryd.func27, Tryd.ntmps27
    go_wp2_with (go_at_call 21; refine HCK.out.mono ?_; rintro e w1 ⟨rfl, hb1⟩; have HB1 := Aside0.mk (HB0.out.trans (hb1.mono (by simp))); have HBX1 := Aside0.mk (blk_below HBX.out hb1); clear hb1)
    have hS0 : Below w1.heap.size w1 w1 := Below.refl _ _
    have z0 : ∀ X, Below w1.heap.size w1 X → X.cell? ⟨w.heap.size, 0, none⟩ = some (.slice Ab nb cb) := fun X hX => pw_cell_below hX (blk_cell HBX1.out 0)
    go_region_held3 (fun X => Below w1.heap.size w1 X) (first | assumption | exact below_step (by assumption) (by assumption) | exact below_drew (by assumption))
      ((go_at_call 23; refine (HSZ.out _ (HB1.out.trans ((show Below w1.heap.size w1 _ by assumption).mono HB1.out.size))).mono ?_; rintro e w2 ⟨rfl, hb2⟩))
    have HB2 := Aside0.mk (HB1.out.trans ((show Below w1.heap.size w1 w2 by assumption).mono HB1.out.size))
    have HBX2 := Aside0.mk (blk_below HBX1.out (show Below w1.heap.size w1 w2 by assumption))
    by_cases hlen : nb < sizeC l
    · rw [if_pos hlen] at hr
      subst hr
      have hd : decide (nb < sizeC l) = true := decide_eq_true hlen
      go_wp2
      go_ret2
      exact ⟨_, w.heap.size, rfl, Nat.le_refl _, Kd.R_nil _ _ _ _ _, HB2.out⟩
    · rw [if_neg hlen] at hr
      have hd : decide (nb < sizeC l) = false := decide_eq_false hlen
      have HR := Aside0.mk hr
      have HLEN := Aside0.mk hlen
      clear hr hS0 z0
      go_wp2
      rw [hd]
      clear hlen hd
      go_loopw [9, 31] (fun ov i wr => ∃ (k at_ : Nat) (acc : List Vl), k ≤ n ∧ i = .int .i64 k ∧ Aside0 (unpA o b l 0 [] = unpA o b (l.drop k) at_ acc) ∧ Aside0 (sumC (l.take k) = at_ ∧ acc.length ≤ k) ∧ Aside0 (Kd.R kV 36 wr (w2.heap.size + 1) (fun _ => True) ov acc) ∧ Aside0 (wr.heap[w2.heap.size]? = some (.cells #[.int .i64 at_] 3 (0, 0))) ∧ Aside0 (Below w2.heap.size w2 wr)) (fun _ i _ => n - (intOf i).toNat)
      case atStart => exact ⟨0, 0, [], Nat.zero_le _, rfl, ⟨rfl⟩, ⟨by simp [sumC], by simp⟩, ⟨Kd.R_nil _ _ _ _ _⟩, ⟨blk_new _ _⟩, ⟨below_alloc (Below.refl _ _) _⟩⟩
      case round =>
        obtain ⟨k, at_, acc, hk, rfl, HU, HAT, HRA, HBA2, HB⟩ := hrel
        by_cases hlt : k < n
        · obtain ⟨m, hmk⟩ : ∃ m, l[k]? = some m := ⟨_, List.getElem?_eq_getElem (by rw [HN.out]; exact hlt)⟩
          have hmem := List.mem_of_getElem? hmk
          have HW := Aside0.mk (HB2.out.trans (HB.out.mono HB2.out.size))
          obtain ⟨ad, rfl, y0, y1, y2⟩ := HM.out.below HW.out k m hmk
          obtain ⟨hw1, hw2, hw3⟩ := HMW.out m hmem
          have hone := HALL.out.1 m hmem
          have hbb := one_bits hone
          obtain ⟨nn, hnn⟩ : ∃ nn : Nat, m.bits = (nn : Int) := ⟨m.bits.toNat, by omega⟩
          have hdrop : l.drop k = m :: l.drop (k + 1) := by
            have hkl : k < l.length := by rw [HN.out]; exact hlt
            rw [List.drop_eq_getElem_cons hkl]
            rw [List.getElem?_eq_getElem hkl] at hmk
            injection hmk with hmk
            rw [hmk]
          have hsum := sumC_take l k m hmk
          have hsle := (sumC_le HBP.out (k + 1)).2
          have hszc : at_ + nn ≤ 8 * b.length := by
            have h1 := HLEN.out
            have h2 := HNB.out
            have h3 := HAT.out.1
            have h4 := HALL.out.2
            unfold sizeC at h1
            omega
          have h64 : at_ + nn ≤ 64 := by
            have h3 := HAT.out.1
            have h4 := HALL.out.2
            omega
          have HSUM := Aside0.mk (show sumC (l.take (k + 1)) = ((at_ + nn : Nat) : Int) by rw [hsum, HAT.out.1, hnn]; omega)
          have hu := HU.out
          rw [hdrop, show unpA o b (m :: l.drop (k + 1)) at_ acc = if gapC m then unpA o b (l.drop (k + 1)) (at_ + m.bits.toNat) acc
            else if (mayW o m.ix m.sub (outV b at_ m.bits.toNat)).2 ≠ 0 then ([], (mayW o m.ix m.sub (outV b at_ m.bits.toNat)).2)
            else unpA o b (l.drop (k + 1)) (at_ + m.bits.toNat) (acc ++ [((m.ix, m.sub), outV b at_ m.bits.toNat)]) from rfl, show m.bits.toNat = nn by omega] at hu
          obtain ⟨ix, sub, bits⟩ := m
          simp only at hnn hw1 hw2 hw3 y0 y1 y2 hu hbb
          subst hnn
          have hb1 : Below wr.heap.size wr (wr.alloc (.cells #[.int .u16 ix, .int .u8 sub, .int .i64 nn] 48)) := below_alloc (Below.refl _ _) _
          have HROW := Aside0.mk (blk_new wr (.cells #[.int .u16 ix, .int .u8 sub, .int .i64 nn] 48))
          have hbx := blk_below (blk_below HBX2.out HB.out) hb1
          have HTK := Aside0.mk (Go.Proofs.YtokebpeplopjhaaDoor.Num.take_any w.heap.size w2.heap.size cb Ab b at_ nn (wr.alloc (.cells #[.int .u16 ix, .int .u8 sub, .int .i64 nn] 48)) (by rw [HNB.out]; exact blk_cell hbx 0) (blk_below HBA2.out hb1) ((HBA.out.below HW.out).below hb1).rd HBA.out.byt hszc (by omega))
          have HU2 := Aside0.mk hu
          have HB1' := Aside0.mk hb1
          have hsz2 : w2.heap.size < wr.heap.size := blk_lt HBA2.out
          clear hu hsum hsle hszc hdrop hmk hone hb1 hbx hmem
          by_cases hg : gapC ⟨ix, sub, nn⟩
          · have HGAP := Aside0.mk (decide_eq_true hg)
            go_wp2_with (first
              | (go_at_call 79; refine HTK.out.mono ?_; rintro e w4 ⟨gt, rfl, hgt, hrb, hba4, hf4⟩; have HRB4 := Aside0.mk hrb; have HBA4 := Aside0.mk hba4; have HF4 := Aside0.mk hf4; have HGT := Aside0.mk hgt; have HGT2 := Aside0.mk (show w2.heap.size + 1 ≤ gt by simp at hgt; omega); have HB4 := Aside0.mk ((HB.out.trans (HB1'.out.mono HB.out.size)).trans (hf4.below (B := w2.heap.size) (fun jj hj => ⟨by simp; omega, fun e => absurd (show jj = w2.heap.size from e) (by omega)⟩))); have HRW4 := Aside0.mk ((hf4.block wr.heap.size (by simp) (fun e => absurd (show wr.heap.size = w2.heap.size from e) (by omega))).trans HROW.out); obtain ⟨c0, c1, c2, -⟩ := held3 HRW4.out; have HRA4 := Aside0.mk (R_fr (Kd.R_below HRA.out HB1'.out) hf4 (fun jj hj e => absurd (show jj = w2.heap.size from e) (by omega))); have HW4 := Aside0.mk (HB2.out.trans (HB4.out.mono HB2.out.size)); clear hrb hba4 hf4 hgt)
              | (go_at_call 80; refine (gap_any ix sub nn hw1 _ (HT.out.below HW4.out)).mono ?_; rw [HGAP.out]; rintro e w5 ⟨rfl, hb5⟩; have HB5 := Aside0.mk (HB4.out.trans (hb5.mono HB4.out.size)); have HRA5 := Aside0.mk (Kd.R_below HRA4.out hb5); have HBA5 := Aside0.mk (blk_below HBA4.out hb5); have HRB5 := Aside0.mk (show Go.Proofs.YtokebpeplopjhaaDoor.Num.RowB w5 gt (outV b at_ nn) from blk_below HRB4.out hb5); have HW5 := Aside0.mk (HB2.out.trans (HB5.out.mono HB2.out.size)); obtain ⟨d0, d1, d2, -⟩ := held3 (blk_below HRW4.out hb5); have HRW5 := Aside0.mk (blk_below HRW4.out hb5); clear hb5))
            go_roundw
            case rel =>
              refine ⟨k + 1, at_ + nn, acc, by omega, by go_num, ⟨?_⟩, ⟨HSUM.out, by have := HAT.out.2; omega⟩, HRA5, ⟨HBA5.out⟩, HB5⟩
              rw [HU2.out, if_pos hg]
            case measure => simp [intOf]; omega
          · have HGAP := Aside0.mk (decide_eq_false hg)
            obtain ⟨⟨t1, t2⟩, hmw2⟩ : ∃ q, mayW o ix sub (outV b at_ nn) = q := ⟨_, rfl⟩
            have HMW2 := Aside0.mk hmw2
            have hu2 := HU2.out
            rw [if_neg hg, hmw2] at hu2
            simp only at hu2
            by_cases ht2 : t2 = 0
            · subst ht2
              rw [if_neg (by simp)] at hu2
              have HU3 := Aside0.mk hu2
              clear hu2 hmw2
              go_wp2_with (first
                | (go_at_call 79; refine HTK.out.mono ?_; rintro e w4 ⟨gt, rfl, hgt, hrb, hba4, hf4⟩; have HRB4 := Aside0.mk hrb; have HBA4 := Aside0.mk hba4; have HF4 := Aside0.mk hf4; have HGT := Aside0.mk hgt; have HGT2 := Aside0.mk (show w2.heap.size + 1 ≤ gt by simp at hgt; omega); have HB4 := Aside0.mk ((HB.out.trans (HB1'.out.mono HB.out.size)).trans (hf4.below (B := w2.heap.size) (fun jj hj => ⟨by simp; omega, fun e => absurd (show jj = w2.heap.size from e) (by omega)⟩))); have HRW4 := Aside0.mk ((hf4.block wr.heap.size (by simp) (fun e => absurd (show wr.heap.size = w2.heap.size from e) (by omega))).trans HROW.out); obtain ⟨c0, c1, c2, -⟩ := held3 HRW4.out; have HRA4 := Aside0.mk (R_fr (Kd.R_below HRA.out HB1'.out) hf4 (fun jj hj e => absurd (show jj = w2.heap.size from e) (by omega))); have HW4 := Aside0.mk (HB2.out.trans (HB4.out.mono HB2.out.size)); clear hrb hba4 hf4 hgt)
                | (go_at_call 80; refine (gap_any ix sub nn hw1 _ (HT.out.below HW4.out)).mono ?_; rw [HGAP.out]; rintro e w5 ⟨rfl, hb5⟩; have HB5 := Aside0.mk (HB4.out.trans (hb5.mono HB4.out.size)); have HRA5 := Aside0.mk (Kd.R_below HRA4.out hb5); have HBA5 := Aside0.mk (blk_below HBA4.out hb5); have HRB5 := Aside0.mk (show Go.Proofs.YtokebpeplopjhaaDoor.Num.RowB w5 gt (outV b at_ nn) from blk_below HRB4.out hb5); have HW5 := Aside0.mk (HB2.out.trans (HB5.out.mono HB2.out.size)); obtain ⟨d0, d1, d2, -⟩ := held3 (blk_below HRW4.out hb5); have HRW5 := Aside0.mk (blk_below HRW4.out hb5); clear hb5)
                | (go_at_call 26; have hmay := may_any B v o ix sub hw1 hw2 (some ⟨gt, 0, none⟩) ((nn + 7) / 8) (outV b at_ nn) w5 (HD.out.below HW5.out) (HT.out.below HW5.out) ⟨rowB_rd HRB5.out (by rw [outV_length]; omega), outV_byt _ _ _, Nat.le_of_eq (outV_length _ _ _), by omega⟩ (HWF.out ix sub); rw [outV_length, HMW2.out] at hmay; refine hmay.mono ?_; clear hmay; rintro e w6 ⟨rfl, hb6⟩; have HB6 := Aside0.mk (HB5.out.trans (hb6.mono HB5.out.size)); have HRA6 := Aside0.mk (Kd.R_below HRA5.out hb6); have HBA6 := Aside0.mk (blk_below HBA5.out hb6); have HRB6 := Aside0.mk (show Go.Proofs.YtokebpeplopjhaaDoor.Num.RowB w6 gt (outV b at_ nn) from blk_below HRB5.out hb6); obtain ⟨e0, e1, e2, -⟩ := held3 (blk_below HRW5.out hb6); clear hb6)
                | ((with_reducible refine gate_builtin (b := .append) (xs := #[.tmp 52, .tmp 57]) rfl ?_); at_builtin; refine Kd.R_append kV (w0 := w6) (w2.heap.size + 1) rfl (.tmp 52) (.tmp 57) 24 36 (.agg #[.int .u16 0, .int .u8 0, .slice none 0 0]) 32 rfl Tryd.underlying24 info_v rfl (by decide) (by decide) _ acc ((ix, sub), outV b at_ nn) [.int .u16 ix, .int .u8 sub, .slice (some ⟨gt, 0, none⟩) ((nn + 7) / 8) ((nn + 7) / 8)] (fun _ => True) (fun k => k = gt) rfl rfl (kV_M HRB6.out HGT2.out (outV_length _ _ _) (by rw [outV_length]; omega)) (fun kk hkk => ⟨trivial, fun ee => by have := ((Kd.R_bound HRA.out).1 kk ee.symm).2.2; have := HGT.out; have hq := (show kk = gt from hkk); simp at this; omega⟩) (fun _ _ => trivial) HRA6.out (Below.refl _ _) (by have := blk_lt HBA6.out; omega) (by have := HAT.out.2; omega) ?_; intro v7 w7 hown hb7 hg7 hat7; have HR7 := Aside0.mk hown; have HB7 := Aside0.mk (HB6.out.trans (hb7.mono (Nat.le_succ _))); have HBA7 := Aside0.mk ((hb7.block w2.heap.size (Nat.lt_succ_self _)).trans HBA6.out); clear hown hb7 hg7 hat7))
              go_roundw
              case rel =>
                exact ⟨k + 1, at_ + nn, acc ++ [((ix, sub), outV b at_ nn)], by omega, by go_num, HU3, ⟨HSUM.out, by have := HAT.out.2; simp; omega⟩, HR7, ⟨HBA7.out⟩, HB7⟩
              case measure => simp [intOf]; omega
            · have f1 : (t2 == 0) = false := by simpa using ht2
              have f2 : (t2 != 0) = true := by simpa using ht2
              rw [if_pos ht2] at hu2
              have hrr : r = ([], t2) := by rw [← HR.out, hu2]
              subst hrr
              clear hu2 hmw2
              go_wp2_with (first
                | (go_at_call 79; refine HTK.out.mono ?_; rintro e w4 ⟨gt, rfl, hgt, hrb, hba4, hf4⟩; have HRB4 := Aside0.mk hrb; have HBA4 := Aside0.mk hba4; have HF4 := Aside0.mk hf4; have HGT := Aside0.mk hgt; have HGT2 := Aside0.mk (show w2.heap.size + 1 ≤ gt by simp at hgt; omega); have HB4 := Aside0.mk ((HB.out.trans (HB1'.out.mono HB.out.size)).trans (hf4.below (B := w2.heap.size) (fun jj hj => ⟨by simp; omega, fun e => absurd (show jj = w2.heap.size from e) (by omega)⟩))); have HRW4 := Aside0.mk ((hf4.block wr.heap.size (by simp) (fun e => absurd (show wr.heap.size = w2.heap.size from e) (by omega))).trans HROW.out); obtain ⟨c0, c1, c2, -⟩ := held3 HRW4.out; have HRA4 := Aside0.mk (R_fr (Kd.R_below HRA.out HB1'.out) hf4 (fun jj hj e => absurd (show jj = w2.heap.size from e) (by omega))); have HW4 := Aside0.mk (HB2.out.trans (HB4.out.mono HB2.out.size)); clear hrb hba4 hf4 hgt)
                | (go_at_call 80; refine (gap_any ix sub nn hw1 _ (HT.out.below HW4.out)).mono ?_; rw [HGAP.out]; rintro e w5 ⟨rfl, hb5⟩; have HB5 := Aside0.mk (HB4.out.trans (hb5.mono HB4.out.size)); have HRA5 := Aside0.mk (Kd.R_below HRA4.out hb5); have HBA5 := Aside0.mk (blk_below HBA4.out hb5); have HRB5 := Aside0.mk (show Go.Proofs.YtokebpeplopjhaaDoor.Num.RowB w5 gt (outV b at_ nn) from blk_below HRB4.out hb5); have HW5 := Aside0.mk (HB2.out.trans (HB5.out.mono HB2.out.size)); obtain ⟨d0, d1, d2, -⟩ := held3 (blk_below HRW4.out hb5); have HRW5 := Aside0.mk (blk_below HRW4.out hb5); clear hb5)
                | (go_at_call 26; have hmay := may_any B v o ix sub hw1 hw2 (some ⟨gt, 0, none⟩) ((nn + 7) / 8) (outV b at_ nn) w5 (HD.out.below HW5.out) (HT.out.below HW5.out) ⟨rowB_rd HRB5.out (by rw [outV_length]; omega), outV_byt _ _ _, Nat.le_of_eq (outV_length _ _ _), by omega⟩ (HWF.out ix sub); rw [outV_length, HMW2.out] at hmay; refine hmay.mono ?_; clear hmay; rintro e w6 ⟨rfl, hb6⟩; have HB6 := Aside0.mk (HB5.out.trans (hb6.mono HB5.out.size)); have HRA6 := Aside0.mk (Kd.R_below HRA5.out hb6); have HBA6 := Aside0.mk (blk_below HBA5.out hb6); have HRB6 := Aside0.mk (show Go.Proofs.YtokebpeplopjhaaDoor.Num.RowB w6 gt (outV b at_ nn) from blk_below HRB5.out hb6); obtain ⟨e0, e1, e2, -⟩ := held3 (blk_below HRW5.out hb6); clear hb6))
              go_ret2
              exact ⟨_, w.heap.size, rfl, Nat.le_refl _, Kd.R_nil _ _ _ _ _, HB2.out.trans (HB6.out.mono HB2.out.size)⟩
        · obtain rfl : k = n := by omega
          have hrr : r = (acc, 0) := by
            rw [← HR.out, HU.out, List.drop_of_length_le (by rw [HN.out]; exact Nat.le_refl _)]
            rfl
          subst hrr
          go_wp2
          go_ret2
          exact ⟨_, w2.heap.size + 1, rfl, by have := HB2.out.size; omega, HRA.out, HB2.out.trans (HB.out.mono HB2.out.size)⟩
  · have g1 : (q == 0) = false := by simpa using hq0
    have g2 : (q != 0) = true := by simpa using hq0
    rw [if_pos hq0] at hr
    subst hr
    rw [hn] at HCK ⊢
    rw [hnb] at HCK HB0 ⊢
    go_enter Tryd.func27, Tryd.ntmps27
    go_wp2_with (go_at_call 21; refine HCK.out.mono ?_; rintro e w1 ⟨rfl, hb1⟩; have HB1 := Aside0.mk (HB0.out.trans (hb1.mono (by simp))); clear hb1)
    go_ret2
    exact ⟨_, w.heap.size, rfl, Nat.le_refl _, Kd.R_nil _ _ _ _ _, HB1.out⟩
end Go.Proofs.YtokebpeplopjhaaDoor.Mp
namespace Go.Proofs.YtokebpeplopjhaaDoor.Mp
open Go.RowKit Go.Shelf Go.Proofs.YtokebpeplopjhaaDoor.Rng Go.Proofs.YtokebpeplopjhaaDoorW.PrintWords Go.Proofs.YtokebpeplopjhaaDoorW.PrintMore Go.Proofs.YtokebpeplopjhaaDoorW.PrintLast

theorem chk_plain {t : Int} {b lo hi : List Int} (h : chkC t b lo hi = 0) : plainC t b = 0 := by
  unfold chkC at h
  by_cases h0 : plainC t b = 0
  · exact h0
  · rw [if_pos h0] at h
    exact h
/-- A value for a place that may be. -/
def VlOk (x : Vl) : Prop := (0 ≤ x.1.1 ∧ x.1.1 < 65536) ∧ (0 ≤ x.1.2 ∧ x.1.2 < 256) ∧ Byt x.2 ∧ x.2.length ≤ 1000
theorem unpA_ok {o : Option DD} {b : List Int} : ∀ (l : List Mp) (at_ : Nat) (acc : List Vl), (∀ m ∈ l, m.Wf ∧ m.bits ≤ 64) → (∀ x ∈ acc, VlOk x) → (∀ x ∈ (unpA o b l at_ acc).1, VlOk x) ∧ (unpA o b l at_ acc).1.length ≤ acc.length + l.length
  | [], _, acc, _, ha => ⟨ha, by simp [unpA]⟩
  | m :: r, at_, acc, hl, ha => by
    have hm := hl m (by simp)
    have hr : ∀ m ∈ r, m.Wf ∧ m.bits ≤ 64 := fun x hx => hl x (by simp [hx])
    unfold unpA
    split
    · have := unpA_ok (o := o) (b := b) r (at_ + m.bits.toNat) acc hr ha
      exact ⟨this.1, by simp only [List.length_cons]; omega⟩
    · split
      · exact ⟨by simp, by simp⟩
      · have := unpA_ok (o := o) (b := b) r (at_ + m.bits.toNat) (acc ++ [((m.ix, m.sub), outV b at_ m.bits.toNat)]) hr (fun x hx => by
          rcases List.mem_append.1 hx with hx | hx
          · exact ha x hx
          · simp at hx
            subst hx
            exact ⟨hm.1.1, hm.1.2.1, outV_byt _ _ _, by rw [outV_length]; have := hm.2; omega⟩)
        exact ⟨this.1, by have h2 := this.2; simp at h2 ⊢; omega⟩
theorem unpack_ok {o : Option DD} {l : List Mp} {b : List Int} (hl : ∀ m ∈ l, m.Wf) : (∀ x ∈ (unpackC o l b).1, VlOk x) ∧ (unpackC o l b).1.length ≤ l.length := by
  unfold unpackC
  split
  · exact ⟨by simp, by simp⟩
  · rename_i hc
    split
    · exact ⟨by simp, by simp⟩
    · have hc0 : checkC o l false = 0 := by simpa using hc
      have hall : ∀ m ∈ l, oneC o false m = 0 := by
        unfold checkC at hc0
        split at hc0
        · simp at hc0
        · exact (check_all (by omega) hc0).1
      have := unpA_ok (o := o) (b := b) l 0 [] (fun m hm => ⟨hl m hm, by have := one_bits (hall m hm); omega⟩) (by simp)
      exact ⟨this.1, by simpa using this.2⟩
/-- What a dictionary is behind writes. -/
def writesC (d : DD) (vs : List Vl) : DD := vs.foldl (fun d x => wrtC d x.1.1 x.1.2 x.2) d
theorem good_writes {vs : List Vl} : ∀ {d : DD}, Good d → (∀ x ∈ vs, VlOk x) → Good (writesC d vs) := by
  induction vs with
  | nil => exact fun h _ => h
  | cons x r ih =>
    intro d h hv
    exact ih (h.wrt _ _ _ (hv x (by simp)).2.2.1 (fun y _ hy => chk_plain hy)) (fun y hy => hv y (by simp [hy]))
def zVl : Vl := ((0, 0), [])
theorem vl_at {w : World} {base : Nat} {v : Value} {xs : List Vl} (h : Kd.R kV 36 w base (fun _ => True) v xs) (k : Nat) (hk : k < xs.length) (hok : VlOk (xs[k]?.getD zVl)) :
    ∃ g cap A c, v = .slice (some ⟨g, 0, none⟩) xs.length cap ∧ w.cell? ⟨g, k * 3, none⟩ = some (.int .u16 (xs[k]?.getD zVl).1.1) ∧ w.cell? ⟨g, k * 3 + 1, none⟩ = some (.int .u8 (xs[k]?.getD zVl).1.2) ∧ w.cell? ⟨g, k * 3 + 2, none⟩ = some (.slice A (xs[k]?.getD zVl).2.length c) ∧ ArgV w (.slice A (xs[k]?.getD zVl).2.length c) (xs[k]?.getD zVl).2 := by
  obtain ⟨g, cap, rfl, -, -, -⟩ := Kd.R_form h (by omega)
  obtain ⟨c, _, hM, hc, _⟩ := Kd.R_elem h zVl (k : Int) (by omega) (by omega)
  rw [Int.toNat_natCast, List.getD_eq_getElem?_getD] at hM
  rw [Int.toNat_natCast] at hc
  obtain ⟨_, _, rfl, ⟨_, _, rfl, rfl, rfl⟩, ⟨v2, rfl, hR⟩⟩ := hM
  have ha := ArgV.of_R hR hok.2.2.1 (by have := hok.2.2.2; omega)
  obtain ⟨A, c2, rfl, h2⟩ := ha
  exact ⟨g, cap, A, c2, rfl, hc 0 _ rfl, hc 1 _ rfl, hc 2 _ rfl, ⟨A, c2, rfl, h2⟩⟩
/-- What Write leaves. -/
def MwrSaid (B : Nat) (w : World) (g bi bs : Nat) (r : Int) (d : DD) (e : Ending) (w' : World) : Prop := e = .returned (.int .u32 r) ∧ DictB B w' g bi bs d ∧ Fr (fun k => k = g ∨ k = bi) w w'
theorem tblB_fr {w w' : World} {B g bi : Nat} (h : TblB B w) (hf : Fr (fun k => k = g ∨ k = bi) w w') (hg : B ≤ g) (hi : B ≤ bi) : TblB B w' := by
  obtain ⟨bm, h1, h2, h3, h4⟩ := h
  exact ⟨bm, h1, h2, hf.cell h3 (by rintro (e | e); exact absurd (show 0 = g from e) (by omega); exact absurd (show 0 = bi from e) (by omega)), h4.block (hf.block bm h4.lt (by rintro (e | e) <;> omega))⟩
set_option maxRecDepth 100000 in
set_option maxHeartbeats 4000000 in
theorem mwrite_any (B g bi bs : Nat) (d : DD) (hd : Good d) (l : List Mp) (A : Option Addr) (c : Nat) (Ab : Option Addr) (cb : Nat) (b : List Int) (w : World) (h : DictB B w g bi bs d) (ht : TblB B w) (hm : MsAt w A l) (hl : l.length ≤ 1000000) (hmw : ∀ m ∈ l, m.Wf) (hb : Arg w Ab cb b) :
    Calls Tryd.prog 24 #[.pointer (some ⟨g, 0, none⟩), .slice A l.length c, .slice Ab b.length cb] w (MwrSaid B w g bi bs (unpackC (some d) l b).2 (writesC d (unpackC (some d) l b).1)) := by
  have HUN := Aside0.mk (unpack_any B (.pointer (some ⟨g, 0, none⟩)) (some d) l A c Ab cb b w ⟨g, rfl, h.dict⟩ ht.tbl hm hl hmw hd.find hb)
  obtain ⟨hok, hlen⟩ := unpack_ok (o := some d) (b := b) hmw
  obtain ⟨⟨xs, q⟩, hq⟩ : ∃ q, unpackC (some d) l b = q := ⟨_, rfl⟩
  rw [hq] at HUN hok hlen ⊢
  simp only at HUN hok hlen ⊢
  have HOK := Aside0.mk hok
  have HD := Aside0.mk h
  have HT := Aside0.mk ht
  have HG := Aside0.mk hd
  have hgB : B ≤ g ∧ B ≤ bi := ⟨h.choose_spec.choose_spec.choose_spec.choose_spec.base.1, h.choose_spec.choose_spec.choose_spec.choose_spec.base.2.1⟩
  have hgl : g < w.heap.size ∧ bi < w.heap.size := ⟨blk_lt h.choose_spec.choose_spec.choose_spec.choose_spec.blk, h.choose_spec.choose_spec.choose_spec.choose_spec.items.lt⟩
  have hxl : xs.length ≤ 1000000 := by omega
  clear hok h ht hm hb hd hq hlen hmw
  go_enter Tryd.func24, Tryd.ntmps24
  go_wp2_with (go_at_call 27; refine HUN.out.mono ?_; rintro e w1 ⟨v1, base, rfl, hbase, hR, hb1⟩; have HR1 := Aside0.mk hR; obtain ⟨A2, c2, rfl, -, -⟩ := Kd.R_reads hR; have HB1 := Aside0.mk hb1; have HBS := Aside0.mk hbase; clear hR hb1 hbase)
  obtain ⟨n, hn⟩ : ∃ n, xs.length = n := ⟨_, rfl⟩
  have HN := Aside0.mk hn
  rw [hn] at HR1 hxl ⊢
  go_loopw [20] (fun i wr => ∃ (k : Nat), k ≤ n ∧ i = .int .i64 k ∧ Aside0 (DictB B wr g bi bs (writesC d (xs.take k))) ∧ Aside0 (Kd.R kV 36 wr base (fun _ => True) (.slice A2 n c2) xs) ∧ Aside0 (Fr (fun k => k = g ∨ k = bi) w wr)) (fun i _ => n - (intOf i).toNat)
  case atStart => exact ⟨0, Nat.zero_le _, rfl, ⟨HD.out.below HB1.out⟩, HR1, ⟨Fr.of_below HB1.out⟩⟩
  case round =>
    clear hn
    obtain ⟨k, hk, rfl, HDK, HRK, HF⟩ := hrel
    by_cases hlt : k < n
    · have hkx : k < xs.length := by rw [HN.out]; exact hlt
      have hmem : xs[k]?.getD zVl ∈ xs := by
        rw [List.getElem?_eq_getElem hkx]
        exact List.getElem_mem hkx
      have hok := HOK.out _ hmem
      obtain ⟨gv, cap, A3, c3, hv, y0, y1, y2, ha⟩ := vl_at HRK.out k hkx hok
      rw [HN.out] at hv
      injection hv with hv1 _ hv2
      subst hv1 hv2
      have htk : xs.take (k + 1) = xs.take k ++ [xs[k]?.getD zVl] := by rw [List.take_add_one, List.getElem?_eq_getElem hkx]; rfl
      have HTK := Aside0.mk htk
      have HGK := Aside0.mk (good_writes HG.out (fun y hy => HOK.out y (List.mem_of_mem_take hy)) : Good (writesC d (xs.take k)))
      generalize xs[k]?.getD zVl = x at *
      obtain ⟨⟨ix, sub⟩, zs⟩ := x
      simp only at y0 y1 y2 ha hok
      have hb1 : Below wr.heap.size wr (wr.alloc (.cells #[.int .u16 ix, .int .u8 sub, .slice A3 zs.length c3] 36)) := below_alloc (Below.refl _ _) _
      have HWR := Aside0.mk (write_any B g bi bs (writesC d (xs.take k)) HGK.out ix sub hok.1 hok.2.1 A3 c3 zs _ (HDK.out.below hb1) ((tblB_fr HT.out HF.out hgB.1 hgB.2).tbl.below hb1) (ha.below hb1))
      have HB1' := Aside0.mk hb1
      clear htk hmem ha hb1
      go_wp2_with (go_at_call 20; refine HWR.out.mono ?_; rintro e w2 ⟨rfl, hd2, hf2⟩; have HD2 := Aside0.mk hd2; have HF2 := Aside0.mk hf2; clear hd2 hf2)
      go_roundw
      case rel =>
        refine ⟨k + 1, by omega, by go_num, ⟨?_⟩, ⟨R_fr (Kd.R_below HRK.out HB1'.out) HF2.out (fun jj hj e => ?_)⟩, ⟨HF.out.trans ((Fr.of_below HB1'.out).trans HF2.out)⟩⟩
        · rw [HTK.out]
          unfold writesC
          rw [List.foldl_append]
          exact HD2.out
        · have := HBS.out
          rcases e with e | e <;> omega
      case measure => simp [intOf]; omega
    · obtain rfl : k = n := by omega
      have hz : xs.take k = xs := List.take_of_length_le (by rw [HN.out]; exact Nat.le_refl _)
      have hdk := HDK.out
      rw [hz] at hdk
      go_wp2
      go_ret
      exact ⟨rfl, hdk, HF.out⟩
end Go.Proofs.YtokebpeplopjhaaDoor.Mp
namespace Go.Proofs.YtokebpeplopjhaaDoor.Mp
open Go.RowKit Go.Shelf Go.Proofs.YtokebpeplopjhaaDoor.Rng Go.Proofs.YtokebpeplopjhaaDoorW.PrintWords Go.Proofs.YtokebpeplopjhaaDoorW.PrintMore Go.Proofs.YtokebpeplopjhaaDoorW.PrintLast

/-- A Map's number. -/
def numC (i s b : Int) : Int := if 0 ≤ b ∧ b ≤ 255 then i * 65536 + s * 256 + b else 0
theorem bits_or_u32_nat (a b : Nat) (ha : a < 4294967296) (hb : b < 4294967296) : bits .or .u32 (a : Int) (b : Int) = ((a ||| b : Nat) : Int) := by
  have hx : a ||| b < 2 ^ 32 := Nat.or_lt_two_pow (by omega) (by omega)
  have h1 : (BitVec.ofInt 32 (a : Int)).toNat = a := by
    rw [BitVec.ofInt_natCast, BitVec.toNat_ofNat]; exact Nat.mod_eq_of_lt (by omega)
  have h2 : (BitVec.ofInt 32 (b : Int)).toNat = b := by
    rw [BitVec.ofInt_natCast, BitVec.toNat_ofNat]; exact Nat.mod_eq_of_lt (by omega)
  show IntKind.u32.wrap ((BitVec.ofInt 32 (a : Int) ||| BitVec.ofInt 32 (b : Int)).toNat : Int) = _
  rw [BitVec.toNat_or, h1, h2, IntKind.wrap_u32]
  omega
theorem or32 (i : Nat) (a b : Int) (ha : 0 ≤ a) (hb : 0 ≤ b) (hb2 : b < 2 ^ i) (hs : a * 2 ^ i + b < 4294967296) : bits .or .u32 (a * 2 ^ i) b = a * 2 ^ i + b := by
  obtain ⟨x, rfl⟩ := Int.eq_ofNat_of_zero_le ha
  obtain ⟨y, rfl⟩ := Int.eq_ofNat_of_zero_le hb
  have e : ((x : Int) * 2 ^ i) = ((2 ^ i * x : Nat) : Int) := by push_cast; rw [Int.mul_comm]
  rw [e] at hs ⊢
  have hy : y < 2 ^ i := by exact_mod_cast hb2
  rw [bits_or_u32_nat _ _ (by omega) (by omega), ← Nat.two_pow_add_eq_or_of_lt hy]
  omega
theorem info_map : (Tryd.prog.info? 48).map (·.size) = some 3 := by kernel_rfl
theorem of_end {tmps : Array Value} {W : World} {b : Nat} {cs : Array Value} {t : TypeId} (h4 : tmps.getD 2 undef = .pointer (some ⟨b, 0, none⟩)) (hb : W.heap[b]? = some (.cells cs t (0, 0))) (hs : cs.size = 3) :
    (results Tryd.f29 tmps).run Tryd.prog W = .ok (.agg cs) W :=
  results_single rfl (.cell b t cs (0, 0) _ h4 hb Tryd.underlying48 rfl (by rw [info_map, hs]) .nil)
set_option maxRecDepth 100000 in
set_option maxHeartbeats 1000000 in
theorem of_any (n : Int) (hn : 0 ≤ n ∧ n < 4294967296) (w : World) :
    Calls Tryd.prog 29 #[.int .u32 n] w fun e w' => e = .returned (mpV (n / 65536) (n / 256 % 256) (n % 256)) ∧ Below w.heap.size w w' := by
  go_enter Tryd.func29, Tryd.ntmps29
  go_wp2
  exact bodyPost_ret (of_end rfl (blk_new w (.cells #[.int .u16 (n / 65536), .int .u8 (n / 256 % 256), .int .i64 (n % 256)] 48)) rfl) rfl ⟨rfl, below_alloc (Below.refl _ _) _⟩
set_option maxRecDepth 100000 in
set_option maxHeartbeats 1000000 in
theorem number_map (i s b : Int) (hi : 0 ≤ i ∧ i < 65536) (hs : 0 ≤ s ∧ s < 256) (hb : -9223372036854775808 ≤ b ∧ b ≤ 9223372036854775807) (w : World) :
    Calls Tryd.prog 38 #[mpV i s b] w fun e w' => e = .returned (.int .u32 (numC i s b)) ∧ Below w.heap.size w w' := by
  have hb0 : Below w.heap.size w (w.alloc (.cells #[.int .u16 i, .int .u8 s, .int .i64 b] 48)) := below_alloc (Below.refl _ _) _
  by_cases h0 : b < 0
  · rw [show numC i s b = 0 by unfold numC; rw [if_neg (by omega)]]
    go_enter Tryd.func38, Tryd.ntmps38
    go_wp2
    go_ret
    exact ⟨rfl, hb0⟩
  · by_cases h1 : 255 < b
    · rw [show numC i s b = 0 by unfold numC; rw [if_neg (by omega)]]
      go_enter Tryd.func38, Tryd.ntmps38
      go_wp2
      go_ret
      exact ⟨rfl, hb0⟩
    · rw [show numC i s b = i * 65536 + s * 256 + b by unfold numC; rw [if_pos (by omega)]]
      go_enter Tryd.func38, Tryd.ntmps38
      go_wp2
      have e1 : bits .or .u32 (i * 65536) (s * 256) = (i * 256 + s) * 256 := by
        rw [show i * 65536 = i * 2 ^ 16 by rfl, or32 16 i (s * 256) (by omega) (by omega) (by omega) (by omega)]
        omega
      have e2 : bits .or .u32 ((i * 256 + s) * 256) b = i * 65536 + s * 256 + b := by
        rw [show (i * 256 + s) * 256 = (i * 256 + s) * 2 ^ 8 by rfl, or32 8 (i * 256 + s) b (by omega) (by omega) (by omega) (by omega)]
        omega
      rw [e1, e2]
      go_ret
      exact ⟨rfl, hb0⟩
end Go.Proofs.YtokebpeplopjhaaDoor.Mp
namespace Go.Proofs.YtokebpeplopjhaaDoor.Mp
open Go.RowKit Go.Shelf Go.Proofs.YtokebpeplopjhaaDoor.Rng Go.Proofs.YtokebpeplopjhaaDoorW.PrintWords Go.Proofs.YtokebpeplopjhaaDoorW.PrintMore Go.Proofs.YtokebpeplopjhaaDoorW.PrintLast

def eX (sub t : Int) (b : List Int) : En := ⟨24576, sub, ByteArray.empty, t, 7, b, [], [], 0, 0⟩
theorem entry_end {tmps : Array Value} {W : World} {b : Nat} {cs : Array Value} {t : TypeId} (h4 : tmps.getD 6 undef = .pointer (some ⟨b, 0, none⟩)) (hb : W.heap[b]? = some (.cells cs t (0, 0))) (hs : cs.size = 10) :
    (results Tryd.f81 tmps).run Tryd.prog W = .ok (.agg cs) W :=
  results_single rfl (.cell b t cs (0, 0) _ h4 hb Tryd.underlying121 rfl (by rw [info_en, hs]) .nil)
set_option maxRecDepth 100000 in
set_option maxHeartbeats 1000000 in
theorem entry_any (sub t : Int) (ad : Addr) (c : Nat) (b : List Int) (w : World) (h : Arg w (some ad) c b) (hl : b.length ≤ 1000) :
    Calls Tryd.prog 81 #[.int .u8 sub, .int .u8 t, .slice (some ad) b.length c] w fun e w' => ∃ v, e = .returned v ∧ EnV w' v (eX sub t b) ∧ Below w.heap.size w w' := by
  have HR := Aside0.mk (Rd_C h.rd)
  have HY := Aside0.mk h.byt
  clear h
  go_enter Tryd.func81, Tryd.ntmps81
  go_wp2_with ((with_reducible refine gate_dst (N := 10) rfl ?_); refine Kd.R_append_row (Value.int .u8) (0 : Int) (h1 := fun _ => rfl) (w0 := w.alloc (.cells #[.int .u16 0, .int .u8 0, .string ⟨#[]⟩, .int .u8 0, .int .u8 0, .slice none 0 0, .slice none 0 0, .slice none 0 0, .int .u8 0, .int .u8 0] 121)) (w.heap.size + 1) rfl _ _ _ 5 (.int .u8 0) 1 rfl Tryd.underlying34 info_u8 rfl (by decide) _ [] b (some ad) b.length c (fun k => w.heap.size + 1 ≤ k) rfl rfl (fun k hk => by simp at hk; omega) (Kd.R_nil _ _ _ _ _) (Kd.C_below HR.out (below_alloc (Below.refl _ _) _)) (Below.refl _ _) (by simp) (by simp; omega) ?_; intro v1 w1 hown hb hg hat; rw [List.nil_append] at hown; obtain ⟨A1, c1, rfl⟩ := Kd.R_slice hown; have HO := Aside0.mk hown; have HB := Aside0.mk hb; have HROW := Aside0.mk ((hb.block w.heap.size (Nat.lt_succ_self _)).trans (blk_new w _)); obtain ⟨e0, e1, e2, e3, e4, e5, e6, e7, e8, e9, ef⟩ := held10 HROW.out; clear hown hb hg hat)
  rw [cells10]
  have hA := (ArgV.of_R HO.out HY.out (by omega)).off (R_off (k := w.heap.size) HO.out (Nat.lt_succ_self _))
  refine bodyPost_ret (entry_end (b := w.heap.size) (cs := #[.int .u16 24576, .int .u8 sub, .string ⟨#[]⟩, .int .u8 t, .int .u8 7, .slice A1 b.length c1, .slice none 0 0, .slice none 0 0, .int .u8 0, .int .u8 0]) (t := 121) rfl (row10 HROW.out ..) rfl) rfl ⟨_, rfl, ⟨_, _, _, rfl, ArgO.set hA (fr_cells _ _ _), ArgV.nil _, ArgV.nil _⟩, below_cells (Nat.le_refl _) _ _ ((below_alloc (Below.refl _ _) _).trans (HB.out.mono (Nat.le_succ _)))⟩
end Go.Proofs.YtokebpeplopjhaaDoor.Mp
namespace Go.Proofs.YtokebpeplopjhaaDoor.Mp
open Go.RowKit Go.Shelf Go.Proofs.YtokebpeplopjhaaDoor.Rng Go.Proofs.YtokebpeplopjhaaDoorW.PrintWords Go.Proofs.YtokebpeplopjhaaDoorW.PrintMore Go.Proofs.YtokebpeplopjhaaDoorW.PrintLast

def threeE : List En := [eX 1 5 [3], eX 2 1 [1], eX 3 3 [254, 255]]
def threeM : List Mp := [⟨24576, 1, 8⟩, ⟨24576, 2, 1⟩, ⟨24576, 3, 16⟩]
theorem arg_new {w W : World} (zs : List Int) (hb : Byt zs) (hl : zs.length ≤ 1000) (hw : W = w.alloc (.cells (zs.map (Value.int .u8)).toArray 5)) : Arg W (some ⟨w.heap.size, 0, none⟩) zs.length zs := by
  subst hw
  have hn := blk_new w (.cells (zs.map (Value.int .u8)).toArray 5)
  refine ⟨⟨by omega, fun _ => ⟨_, rfl, fun j hj => ?_⟩⟩, hb, Nat.le_refl _, ?_⟩
  · rw [show (⟨w.heap.size, 0, none⟩ : Addr).add j = ⟨w.heap.size, j, none⟩ from add_plain _ _]
    rw [blk_cell hn j]
    simp [hj]
  · have hmx : maxLen = 9223372036854775807 := rfl
    omega
theorem byt_of (zs : List Int) (h : zs.all (fun x => decide (0 ≤ x ∧ x < 256)) = true) : Byt zs := fun x hx => by simpa using List.all_eq_true.1 h x hx
theorem en_parts {w : World} {x : En} {a b c : Value} {i s t r g d : Value} {n : Value} (h : EnV w (.agg #[i, s, n, t, r, a, b, c, g, d]) x) : ArgV w a x.df ∧ ArgV w b x.lo ∧ ArgV w c x.hi := by
  obtain ⟨v1, v2, v3, e, h1, h2, h3⟩ := h
  simp only [Value.agg.injEq, Array.mk.injEq, List.cons.injEq, and_true] at e
  obtain ⟨-, -, -, -, -, rfl, rfl, rfl, -⟩ := e
  exact ⟨h1, h2, h3⟩
theorem es_cell {W : World} {g : Nat} {t : TypeId} {cs : Array Value} (h : W.heap[g]? = some (.cells cs t (0, 0))) (j : Nat) (c : List Value) (hc : c.length = 10) (hs : ∀ i, i < 10 → cs[j * 10 + i]? = c[i]?) (i : Nat) (u : Value) (hu : c[i]? = some u) : W.cell? ((⟨g, 0, none⟩ : Addr).add (j * 10 + i)) = some u := by
  have hi : i < 10 := by rw [← hc]; exact (List.getElem?_eq_some_iff.1 hu).1
  rw [show (⟨g, 0, none⟩ : Addr).add (j * 10 + i) = ⟨g, j * 10 + i, none⟩ from add_plain _ _, blk_cell h, hs i hi, hu]
set_option maxRecDepth 100000 in
set_option maxHeartbeats 2000000 in
theorem three_any (w : World) :
    Calls Tryd.prog 28 #[] w fun e w' => ∃ g1 g2, e = .returned (.tuple #[.slice (some ⟨g1, 0, none⟩) 3 3, .slice (some ⟨g2, 0, none⟩) 3 3]) ∧ EsAt w' (some ⟨g1, 0, none⟩) threeE ∧ MsAt w' (some ⟨g2, 0, none⟩) threeM ∧ Below w.heap.size w w' := by
  have A1 := Aside0.mk (arg_new (w := w) [3] (byt_of _ rfl) (by decide) rfl)
  have A2 := Aside0.mk fun X => (arg_new (w := X) [1] (byt_of _ rfl) (by decide) rfl)
  have A3 := Aside0.mk fun X => (arg_new (w := X) [254, 255] (byt_of _ rfl) (by decide) rfl)
  go_enter Tryd.func28, Tryd.ntmps28
  go_wp2_with (first
    | (go_at_call 81; refine (entry_any 1 5 _ 1 [3] _ A1.out (by decide)).mono ?_; rintro e w1 ⟨v1, rfl, hv, hb⟩; have HV1 := Aside0.mk hv; have HB1 := Aside0.mk ((below_alloc (Below.refl _ _) _).trans (hb.mono (by simp))); obtain ⟨_, _, _, rfl, ⟨P1, p1, rfl, -⟩, ⟨Q1, q1, rfl, -⟩, ⟨R1, r1, rfl, -⟩⟩ := hv; clear hb A1)
    | (go_at_call 81; refine (entry_any 2 1 _ 1 [1] _ (A2.out _) (by decide)).mono ?_; rintro e w2 ⟨v2, rfl, hv, hb⟩; have HV2 := Aside0.mk hv; have HB2 := Aside0.mk ((below_alloc (Below.refl _ _) _).trans (hb.mono (by simp))); obtain ⟨_, _, _, rfl, ⟨P2, p2, rfl, -⟩, ⟨Q2, q2, rfl, -⟩, ⟨R2, r2, rfl, -⟩⟩ := hv; clear hb A2)
    | (go_at_call 81; refine (entry_any 3 3 _ 2 [254, 255] _ (A3.out _) (by decide)).mono ?_; rintro e w3 ⟨v3, rfl, hv, hb⟩; have HV3 := Aside0.mk hv; have HB3 := Aside0.mk ((below_alloc (Below.refl _ _) _).trans (hb.mono (by simp))); obtain ⟨_, _, _, rfl, ⟨P3, p3, rfl, -⟩, ⟨Q3, q3, rfl, -⟩, ⟨R3, r3, rfl, -⟩⟩ := hv; clear hb A3))
  have z1 := en_parts HV1.out
  have z2 := en_parts HV2.out
  have z3 := en_parts HV3.out
  go_ret2
  refine ⟨w3.heap.size, w3.heap.size + 1, rfl, ?_, ?_, ?_⟩
  · have h := blk_alloc (blk_new w3 (.cells #[.int .u16 (eX 1 5 [3]).ix, .int .u8 (eX 1 5 [3]).sub, .string (eX 1 5 [3]).name, .int .u8 (eX 1 5 [3]).ty, .int .u8 (eX 1 5 [3]).rt, .slice P1 (eX 1 5 [3]).df.length p1, .slice Q1 (eX 1 5 [3]).lo.length q1, .slice R1 (eX 1 5 [3]).hi.length r1, .int .u8 (eX 1 5 [3]).tag, .int .u8 (eX 1 5 [3]).grp, .int .u16 (eX 2 1 [1]).ix, .int .u8 (eX 2 1 [1]).sub, .string (eX 2 1 [1]).name, .int .u8 (eX 2 1 [1]).ty, .int .u8 (eX 2 1 [1]).rt, .slice P2 (eX 2 1 [1]).df.length p2, .slice Q2 (eX 2 1 [1]).lo.length q2, .slice R2 (eX 2 1 [1]).hi.length r2, .int .u8 (eX 2 1 [1]).tag, .int .u8 (eX 2 1 [1]).grp, .int .u16 (eX 3 3 [254, 255]).ix, .int .u8 (eX 3 3 [254, 255]).sub, .string (eX 3 3 [254, 255]).name, .int .u8 (eX 3 3 [254, 255]).ty, .int .u8 (eX 3 3 [254, 255]).rt, .slice P3 (eX 3 3 [254, 255]).df.length p3, .slice Q3 (eX 3 3 [254, 255]).lo.length q3, .slice R3 (eX 3 3 [254, 255]).hi.length r3, .int .u8 (eX 3 3 [254, 255]).tag, .int .u8 (eX 3 3 [254, 255]).grp] 121)) (.cells #[.int .u16 24576, .int .u8 1, .int .i64 8, .int .u16 24576, .int .u8 2, .int .i64 1, .int .u16 24576, .int .u8 3, .int .i64 16] 48)
    have hb : ∀ o o', Below w3.heap.size w3 ((w3.alloc o).alloc o') := fun o o' => (below_alloc (Below.refl w3.heap.size w3) _).alloc (by simp) _
    have hb2 := fun o o' => HB3.out.trans ((hb o o').mono HB3.out.size)
    have hb1 := fun o o' => HB2.out.trans ((hb2 o o').mono HB2.out.size)
    intro j e hj
    match j, hj with
    | 0, hj =>
      injection hj with hj
      subst hj
      exact ⟨_, _, _, _, rfl, es_cell h 0 _ rfl (fun i hi => match i, hi with | 0, _ => rfl | 1, _ => rfl | 2, _ => rfl | 3, _ => rfl | 4, _ => rfl | 5, _ => rfl | 6, _ => rfl | 7, _ => rfl | 8, _ => rfl | 9, _ => rfl | n + 10, h => absurd h (by omega)), z1.1.below (hb1 _ _), z1.2.1.below (hb1 _ _), z1.2.2.below (hb1 _ _)⟩
    | 1, hj =>
      injection hj with hj
      subst hj
      exact ⟨_, _, _, _, rfl, es_cell h 1 _ rfl (fun i hi => match i, hi with | 0, _ => rfl | 1, _ => rfl | 2, _ => rfl | 3, _ => rfl | 4, _ => rfl | 5, _ => rfl | 6, _ => rfl | 7, _ => rfl | 8, _ => rfl | 9, _ => rfl | n + 10, h => absurd h (by omega)), z2.1.below (hb2 _ _), z2.2.1.below (hb2 _ _), z2.2.2.below (hb2 _ _)⟩
    | 2, hj =>
      injection hj with hj
      subst hj
      exact ⟨_, _, _, _, rfl, es_cell h 2 _ rfl (fun i hi => match i, hi with | 0, _ => rfl | 1, _ => rfl | 2, _ => rfl | 3, _ => rfl | 4, _ => rfl | 5, _ => rfl | 6, _ => rfl | 7, _ => rfl | 8, _ => rfl | 9, _ => rfl | n + 10, h => absurd h (by omega)), z3.1.below (hb _ _), z3.2.1.below (hb _ _), z3.2.2.below (hb _ _)⟩
  · have h : ∀ o, ((w3.alloc o).alloc (.cells #[.int .u16 24576, .int .u8 1, .int .i64 8, .int .u16 24576, .int .u8 2, .int .i64 1, .int .u16 24576, .int .u8 3, .int .i64 16] 48)).heap[w3.heap.size + 1]? = some (.cells #[.int .u16 24576, .int .u8 1, .int .i64 8, .int .u16 24576, .int .u8 2, .int .i64 1, .int .u16 24576, .int .u8 3, .int .i64 16] 48 (0, 0)) := fun o => by
      have := blk_new (w3.alloc o) (.cells #[.int .u16 24576, .int .u8 1, .int .i64 8, .int .u16 24576, .int .u8 2, .int .i64 1, .int .u16 24576, .int .u8 3, .int .i64 16] 48)
      rwa [World.size_alloc] at this
    intro j m hj
    match j, hj with
    | 0, hj =>
      injection hj with hj
      subst hj
      exact ⟨_, rfl, (by rw [show ∀ n, (⟨w3.heap.size + 1, 0, none⟩ : Addr).add n = ⟨w3.heap.size + 1, n, none⟩ from fun _ => add_plain _ _]; exact blk_cell (h _) 0), (by rw [show ∀ n, (⟨w3.heap.size + 1, 0, none⟩ : Addr).add n = ⟨w3.heap.size + 1, n, none⟩ from fun _ => add_plain _ _]; exact blk_cell (h _) 1), (by rw [show ∀ n, (⟨w3.heap.size + 1, 0, none⟩ : Addr).add n = ⟨w3.heap.size + 1, n, none⟩ from fun _ => add_plain _ _]; exact blk_cell (h _) 2)⟩
    | 1, hj =>
      injection hj with hj
      subst hj
      exact ⟨_, rfl, (by rw [show ∀ n, (⟨w3.heap.size + 1, 0, none⟩ : Addr).add n = ⟨w3.heap.size + 1, n, none⟩ from fun _ => add_plain _ _]; exact blk_cell (h _) 3), (by rw [show ∀ n, (⟨w3.heap.size + 1, 0, none⟩ : Addr).add n = ⟨w3.heap.size + 1, n, none⟩ from fun _ => add_plain _ _]; exact blk_cell (h _) 4), (by rw [show ∀ n, (⟨w3.heap.size + 1, 0, none⟩ : Addr).add n = ⟨w3.heap.size + 1, n, none⟩ from fun _ => add_plain _ _]; exact blk_cell (h _) 5)⟩
    | 2, hj =>
      injection hj with hj
      subst hj
      exact ⟨_, rfl, (by rw [show ∀ n, (⟨w3.heap.size + 1, 0, none⟩ : Addr).add n = ⟨w3.heap.size + 1, n, none⟩ from fun _ => add_plain _ _]; exact blk_cell (h _) 6), (by rw [show ∀ n, (⟨w3.heap.size + 1, 0, none⟩ : Addr).add n = ⟨w3.heap.size + 1, n, none⟩ from fun _ => add_plain _ _]; exact blk_cell (h _) 7), (by rw [show ∀ n, (⟨w3.heap.size + 1, 0, none⟩ : Addr).add n = ⟨w3.heap.size + 1, n, none⟩ from fun _ => add_plain _ _]; exact blk_cell (h _) 8)⟩
  · have hb : ∀ o o', Below w3.heap.size w3 ((w3.alloc o).alloc o') := fun o o' => (below_alloc (Below.refl w3.heap.size w3) _).alloc (by simp) _
    have hb2 := fun o o' => HB3.out.trans ((hb o o').mono HB3.out.size)
    have hb1 := fun o o' => HB2.out.trans ((hb2 o o').mono HB2.out.size)
    exact HB1.out.trans ((hb1 _ _).mono HB1.out.size)
end Go.Proofs.YtokebpeplopjhaaDoor.Mp
namespace Go.Proofs.YtokebpeplopjhaaDoor.Mp
open Go.RowKit Go.Shelf Go.Proofs.YtokebpeplopjhaaDoor.Rng Go.Proofs.YtokebpeplopjhaaDoorW.PrintWords Go.Proofs.YtokebpeplopjhaaDoorW.PrintMore Go.Proofs.YtokebpeplopjhaaDoorW.PrintLast

theorem Good.none : Good DD.none := ⟨fun _ _ _ h => by simp [DD.none] at h⟩
theorem byt_first {e : En} (h : Byt e.df) : Byt (firstC e) := by
  unfold firstC
  split
  · exact h
  · exact byt_zero _
theorem Good.add {d : DD} (hd : Good d) {e : En} (he : e.Wf) (hb : Byt e.df) (hm : mayC chkC e) : Good (d.add e) := by
  refine ⟨fun i s x hx => ?_⟩
  simp only [DD.add] at hx
  by_cases h : i = e.ix ∧ s = e.sub
  · rw [if_pos h] at hx
    injection hx with hx
    subst hx
    exact ⟨he, h.1.symm, h.2.symm, chk_plain hm.2.2.2.2.2.2, byt_first hb⟩
  · rw [if_neg h] at hx
    exact hd.it i s x hx
theorem good_new : ∀ {l : List En} {d : DD}, Good d → (∀ e ∈ l, e.Wf ∧ Byt e.df) → Good (newC l d).2
  | [], _, h, _ => h
  | e :: r, d, h, hl => by
    unfold newC
    split
    · exact h
    · rename_i hm
      split
      · exact h
      · exact good_new (h.add (hl e (by simp)).1 (hl e (by simp)).2 (by simpa using hm)) (fun x hx => hl x (by simp [hx]))
def d3 : DD := (newC threeE DD.none).2
def vs3 : List Vl := [((24576, 1), [5]), ((24576, 2), [0]), ((24576, 3), [1, 0])]
theorem threeE_ok : ∀ e ∈ threeE, e.Wf ∧ Byt e.df := by
  intro e he
  simp only [threeE, List.mem_cons, List.not_mem_nil, or_false] at he
  rcases he with rfl | rfl | rfl <;> exact ⟨⟨by decide, by decide, by decide, by decide, by decide, by decide, by decide⟩, byt_of _ rfl⟩
theorem threeM_ok : ∀ m ∈ threeM, m.Wf := by
  intro m hm
  simp only [threeM, List.mem_cons, List.not_mem_nil, or_false] at hm
  rcases hm with rfl | rfl | rfl <;> exact ⟨by decide, by decide, by decide⟩
theorem d3_good : Good d3 := good_new Good.none threeE_ok
theorem new3 : newR threeE = (0, some d3) := by
  have h : (newC threeE DD.none).1 = 0 := by decide +kernel
  unfold newR
  rw [if_neg (by decide), if_pos h, h]
  rfl
theorem check3 : checkC (some d3) threeM true = 0 := by decide +kernel
theorem pack3 : packC (some d3) threeM = [3, 253, 255, 1] := by decide +kernel
theorem size3 : sizeC threeM = 4 := by decide +kernel
theorem val3 : ∀ m ∈ threeM, m.bits.toNat ≤ 8 * (valC (some d3) m).length := by
  intro m hm
  simp only [threeM, List.mem_cons, List.not_mem_nil, or_false] at hm
  rcases hm with rfl | rfl | rfl <;> decide +kernel
theorem unpack3 : unpackC (some d3) threeM [5, 2, 0, 0] = (vs3, 0) := by decide +kernel
theorem find3 : (findC (some (writesC d3 vs3)) 24576 3).2 = 0 ∧ (findC (some (writesC d3 vs3)) 24576 3).1.val = [1, 0] := by decide +kernel
end Go.Proofs.YtokebpeplopjhaaDoor.Mp
namespace Go.Proofs.YtokebpeplopjhaaDoor.Mp
open Go.RowKit Go.Shelf Go.Proofs.YtokebpeplopjhaaDoor.Rng Go.Proofs.YtokebpeplopjhaaDoorW.PrintWords Go.Proofs.YtokebpeplopjhaaDoorW.PrintMore Go.Proofs.YtokebpeplopjhaaDoorW.PrintLast

theorem str_at {w : World} {A : Option Addr} {n c : Nat} {zs : List Int} (h : kB.C w A n zs) (X : World) (hb : Below w.heap.size w X) : (convert 34 9 (.slice A n c)).run Tryd.prog X = .ok (.string (strOfNums zs)) X :=
  Kd.C_string (P := Tryd.prog) Tryd.underlying34 Tryd.underlying5 Tryd.underlying9 (Kd.C_below h hb)
theorem str_pack {w : World} {A : Option Addr} {n c : Nat} (h : Rd w A [3, 253, 255, 1]) (hn : n = 4) : (convert 34 9 (.slice A n c)).run Tryd.prog w = .ok (.string ⟨#[3, 253, 255, 1]⟩) w := by
  subst hn
  rw [← show strOfNums [3, 253, 255, 1] = ⟨#[3, 253, 255, 1]⟩ by decide +kernel]
  exact str_at (Rd_C h) w (Below.refl _ _)
theorem str_get {w : World} {A : Option Addr} {n c : Nat} {l : List Int} (h : Rd w A l) (hn : n = l.length) (hl : l = [1, 0]) : (convert 34 9 (.slice A n c)).run Tryd.prog w = .ok (.string ⟨#[1, 0]⟩) w := by
  subst hn hl
  rw [← show strOfNums [1, 0] = ⟨#[1, 0]⟩ by decide +kernel]
  exact str_at (Rd_C h) w (Below.refl _ _)
set_option maxRecDepth 100000 in
set_option maxHeartbeats 4000000 in
theorem works_any (w : World) (ht : Tbl w) :
    Calls Tryd.prog 18 #[] w fun e w' => e = .returned (.bool true) ∧ Below w.heap.size w w' := by
  have HT := Aside0.mk ht
  clear ht
  go_enter Tryd.func18, Tryd.ntmps18
  go_wp2_with (first
    | (go_at_call 28; refine (three_any w).mono ?_; rintro e w1 ⟨g1, g2, rfl, hE, hM, hb⟩; have HE := Aside0.mk hE; have HM := Aside0.mk hM; have HB1 := Aside0.mk hb; clear hE hM hb)
    | (go_at_call 19; refine (new_any w.heap.size threeE _ _ w1 HE.out (fun e he => (threeE_ok e he).1) (HT.out.below HB1.out) HB1.out.size (by decide) _ new3).mono ?_; rintro e w2 ⟨hb2, gd, bi, bs, rfl, hg, hbi, hbs, hD⟩; have HB2 := Aside0.mk (HB1.out.trans (hb2.mono HB1.out.size)); have HM2 := Aside0.mk (HM.out.below hb2); have HD := Aside0.mk hD; have HG := Aside0.mk (And.intro hg hbi); clear hb2 hg hbi hbs hD)
    | (go_at_call 22; have hp := Num.pack_any w.heap.size _ (some d3) threeM _ 3 w2 ⟨gd, rfl, HD.out.dict⟩ (HT.out.below HB2.out) HM2.out (by decide) threeM_ok d3_good.find check3 val3; rw [size3, pack3] at hp; refine hp.mono ?_; clear hp; rintro e w3 ⟨gp, rfl, hgp, hrow, hb3⟩; have HB3 := Aside0.mk hb3; have hcv := str_pack (c := 4) (rowB_rd hrow (by decide)) rfl; clear hb3 hrow)
    | (go_at_call 24; have hal : Below w3.heap.size w3 (w3.alloc (.cells #[.int .u8 5, .int .u8 2, .int .u8 0, .int .u8 0] 5)) := below_alloc (Below.refl _ _) _; have HAL := Aside0.mk hal; have HB3' := Aside0.mk (HB2.out.trans ((HB3.out.trans (hal.mono HB3.out.size)).mono HB2.out.size)); have HB23 := Aside0.mk (HB3.out.trans (hal.mono HB3.out.size)); refine (mwrite_any w.heap.size gd bi bs d3 d3_good threeM _ 3 _ 4 [5, 2, 0, 0] _ (HD.out.below HB23.out) (TblB.below HT.out HB3'.out) (HM2.out.below HB23.out) (by decide) threeM_ok (arg_new (w := w3) [5, 2, 0, 0] (byt_of _ rfl) (by decide) rfl)).mono ?_; rw [unpack3]; rintro e w4 ⟨rfl, hd4, hf4⟩; have HD4 := Aside0.mk hd4; have HF4 := Aside0.mk hf4; have HB4 := Aside0.mk (HB3'.out.trans (hf4.below (fun jj hj => ⟨Nat.lt_of_lt_of_le hj HB3'.out.size, by have h1 := HG.out.1; have h2 := HG.out.2; have h3 := HB1.out.size; rintro (e | e) <;> omega⟩))); clear hal hd4 hf4)
    | (go_at_call 25; refine (get_any w.heap.size _ (some (writesC d3 vs3)) 24576 3 (by decide) (by decide) w4 ⟨gd, rfl, HD4.out.dict⟩).mono ?_; rintro e w5 ⟨v5, rfl, ⟨A5, c5, rfl, ha5, -⟩, hb5⟩; rw [find3.1]; have hcv5 := str_get (c := c5) ha5.rd rfl find3.2; have HB5 := Aside0.mk hb5; clear ha5 hb5))
  go_ret
  exact ⟨rfl, HB4.out.trans (HB5.out.mono HB4.out.size)⟩
end Go.Proofs.YtokebpeplopjhaaDoor.Mp
namespace Go.Proofs.YtokebpeplopjhaaDoor.Mp
open Go.RowKit Go.Shelf Go.Proofs.YtokebpeplopjhaaDoor.Rng Go.Proofs.YtokebpeplopjhaaDoorW.PrintWords Go.Proofs.YtokebpeplopjhaaDoorW.PrintMore Go.Proofs.YtokebpeplopjhaaDoorW.PrintLast

theorem argv_arg {w : World} {A : Option Addr} {c : Nat} {zs : List Int} (h : ArgV w (.slice A zs.length c) zs) : Arg w A c zs := by
  obtain ⟨A', c', e, h1, _⟩ := h
  injection e with e1 e2 e3
  subst e1 e3
  exact h1
theorem str_argv {w : World} {A : Option Addr} {c : Nat} {zs : List Int} (h : ArgV w (.slice A zs.length c) zs) (X : World) (hb : Below w.heap.size w X) : (convert 34 9 (.slice A zs.length c)).run Tryd.prog X = .ok (.string (strOfNums zs)) X :=
  str_at (Rd_C (argv_arg h).rd) X hb
set_option maxRecDepth 100000 in
set_option maxHeartbeats 2000000 in
theorem same_any (B : Nat) (v : Value) (d : DD) (gr : Nat) (L : List It) (w : World) (h : DictV B w v (some d)) (hr : RefAt w gr L d.c) (hd : RefOf L d) (hw : ∀ x ∈ L, (0 ≤ x.ix ∧ x.ix < 65536) ∧ (0 ≤ x.sub ∧ x.sub < 256)) :
    Calls Tryd.prog 34 #[v, .pointer (some ⟨gr, 0, none⟩)] w fun e w' => e = .returned (.bool true) ∧ Below w.heap.size w w' := by
  obtain ⟨A, c, hg, hit, hl, hlc⟩ := hr
  obtain ⟨n, hn⟩ : ∃ n, L.length = n := ⟨_, rfl⟩
  have HN := Aside0.mk hn
  rw [hn] at hg hlc hl
  have HG := Aside0.mk hg
  have HI := Aside0.mk hit
  have HD := Aside0.mk h
  have HRO := Aside0.mk hd
  have HW := Aside0.mk hw
  have HCH := Aside0.mk fun (X : World) (hX : Below w.heap.size w X) => changes_any B v d X (h.below hX)
  clear h hg hit hd hw hn
  go_enter Tryd.func34, Tryd.ntmps34
  go_wp2
  go_loopw [5] (fun iv wr => ∃ (k : Nat), k ≤ n ∧ iv = .int .i64 k ∧ Aside0 (Below w.heap.size w wr)) (fun iv _ => n - (intOf iv).toNat)
  case atStart => exact ⟨0, Nat.zero_le _, rfl, ⟨Below.refl _ _⟩⟩
  case round =>
    obtain ⟨k, hk, rfl, HB⟩ := hrel
    have hg1 := blk_below HG.out HB.out
    have g0 : wr.cell? ⟨gr, 0, none⟩ = some (.slice A n c) := Go.Proofs.YtokebpeplopjhaaDoorW.PrintWords.blk_cell hg1 0
    have G0 : ∀ X, Below wr.heap.size wr X → X.cell? ⟨gr, 0, none⟩ = some (.slice A n c) := fun X hX => pw_cell_below hX g0
    have G1 : ∀ X, Below wr.heap.size wr X → X.cell? ⟨gr, 1, none⟩ = some (.int .i64 d.c) := fun X hX => pw_cell_below hX (Go.Proofs.YtokebpeplopjhaaDoorW.PrintWords.blk_cell hg1 1)
    have hS0 : Below wr.heap.size wr wr.drew := below_drew (Below.refl _ _)
    clear hg1
    by_cases hlt : k < n
    · obtain ⟨x, hx⟩ : ∃ x, L[k]? = some x := ⟨_, List.getElem?_eq_getElem (by rw [HN.out]; exact hlt)⟩
      obtain ⟨ad, A1, a1, A2, a2, A3, a3, A4, a4, rfl, -, -, -, hv4, y0, y1, -, -, -, -, -, -, -, -, y10⟩ := it_at2 HB.out HI.out hx
      have hxm := List.mem_of_getElem? hx
      obtain ⟨hxi, hxs⟩ := HW.out x hxm
      have hf : findC (some d) x.ix x.sub = (x, 0) := by simp [findC, DD.at, HRO.out.it x hxm]
      have HGET := Aside0.mk fun (X : World) (hX : Below wr.heap.size wr X) => (show Calls Tryd.prog 25 #[v, pl x.ix x.sub] X (GetSaid X (x, 0)) from hf ▸ get_any B v (some d) x.ix x.sub hxi hxs X ((HD.out.below HB.out).below hX))
      have u0 : ∀ X, Below wr.heap.size wr X → X.cell? (ad.add (k * 11)) = some (.int .u16 x.ix) := fun X hX => pw_cell_below hX y0
      have u1 : ∀ X, Below wr.heap.size wr X → X.cell? ⟨(ad.add (k * 11)).block, (ad.add (k * 11)).off + 1, none⟩ = some (.int .u8 x.sub) := fun X hX => pw_cell_below hX y1
      have HV4 := Aside0.mk (hv4.below HB.out)
      have u10 : ∀ X, Below wr.heap.size wr X → X.cell? ⟨(ad.add (k * 11)).block, (ad.add (k * 11)).off + 10, none⟩ = some (.slice A4 x.val.length a4) := fun X hX => pw_cell_below hX y10
      have hi1 : (k : Int) < (n : Int) := by omega
      clear hv4 hx hxm hxi hxs hf
      go_wp2
      clear y0 y1 y10 g0
      go_region_held3 (fun X => Below wr.heap.size wr X) (first | assumption | exact hS0 | exact below_step (by assumption) (by assumption) | exact below_drew (by assumption))
        ((go_at_call 25; refine (HGET.out _ (by assumption)).mono ?_; rintro e w2 ⟨v5, rfl, hv5, hb5⟩; have hs2 := below_step (by assumption) hb5; obtain ⟨A5, a5, rfl, hv5⟩ := hv5; have HV5 := Aside0.mk (show ArgV w2 (.slice A5 x.val.length a5) x.val from ⟨_, _, rfl, hv5⟩); have HS2 := Aside0.mk hs2; clear hb5 hv5))
      go_wp2
      have c1 : ∀ X, Below wr.heap.size wr X ∧ Below w2.heap.size w2 X → (convert 34 9 (.slice A5 x.val.length a5)).run Tryd.prog X = .ok (.string (strOfNums x.val)) X := fun X hX => str_argv HV5.out X hX.2
      have c2 : ∀ X, Below wr.heap.size wr X ∧ Below w2.heap.size w2 X → (convert 34 9 (.slice A4 x.val.length a4)).run Tryd.prog X = .ok (.string (strOfNums x.val)) X := fun X hX => str_argv HV4.out X hX.1
      go_region_held3 (fun X => Below wr.heap.size wr X ∧ Below w2.heap.size w2 X) (first | assumption | exact ⟨below_drew HS2.out, below_drew (Below.refl _ _)⟩)
        (fail)
      go_wp2
      go_roundw
      case rel => exact ⟨k + 1, by omega, by go_num, ⟨HB.out.trans ((below_drew HS2.out).mono HB.out.size)⟩⟩
      case measure => simp [intOf]; omega
    · obtain rfl : k = n := by omega
      go_wp2
      go_region_held3 (fun X => Below wr.heap.size wr X) (first | assumption | exact hS0 | exact below_step (by assumption) (by assumption) | exact below_drew (by assumption))
        ((go_at_call 69; refine (HCH.out _ (HB.out.trans ((below_drew (Below.refl _ _)).mono HB.out.size))).mono ?_; rintro e w2 ⟨rfl, hw2⟩; subst hw2))
      go_wp2
      go_ret
      exact ⟨rfl, HB.out.trans ((below_drew (Below.refl _ _)).mono HB.out.size)⟩
end Go.Proofs.YtokebpeplopjhaaDoor.Mp
namespace Go.Proofs.YtokebpeplopjhaaDoor.Mp
open Go.RowKit Go.Shelf Go.Proofs.YtokebpeplopjhaaDoor.Rng Go.Proofs.YtokebpeplopjhaaDoorW.PrintWords Go.Proofs.YtokebpeplopjhaaDoorW.PrintMore Go.Proofs.YtokebpeplopjhaaDoorW.PrintLast

/-- Eleven cells, raw. -/
def kI : Kd (List Value) where
  sz := 11
  E := []
  K _ x cs := cs = x ∧ x.length = 11 ∧ ∀ u ∈ x, u.oneCell' = true
  M _ _ _ x cs := cs = x ∧ x.length = 11 ∧ ∀ u ∈ x, u.oneCell' = true
  K_len := fun h => h.1 ▸ h.2.1
  K_one := fun h => h.1 ▸ h.2.2
  K_below := fun _ h => h
  K_of_M := fun h => h
  M_mono := fun _ h => h
  M_bound := fun h => h
  M_move := fun _ h => h
  M_lower := fun _ h => h
theorem info_ri : (Tryd.prog.info? 151).map (fun i => (i.zero, i.size, i.bytes)) = some (some (.agg #[.int .u16 0, .int .u8 0, .string { data := #[] }, .int .u8 0, .int .u8 0, .slice none 0 0, .slice none 0 0, .slice none 0 0, .int .u8 0, .int .u8 0, .slice none 0 0]), 11, 136) := by kernel_rfl
/-- These cells are these items. -/
structure ItsP (P : Value → List Int → Prop) (L : List It) (cs : List (List Value)) : Prop where
  len : cs.length = L.length
  at_ : ∀ (j : Nat) (x : It), L[j]? = some x → ∃ v1 v2 v3 v4, cs[j]? = some (x.toEn.cells v1 v2 v3 ++ [v4]) ∧ P v1 x.df ∧ P v2 x.lo ∧ P v3 x.hi ∧ P v4 x.val
theorem ItsP.imp {P Q : Value → List Int → Prop} {L : List It} {cs : List (List Value)} (h : ItsP P L cs) (f : ∀ v a, P v a → Q v a) : ItsP Q L cs :=
  ⟨h.len, fun j x hj => by
    obtain ⟨v1, v2, v3, v4, e, h1, h2, h3, h4⟩ := h.at_ j x hj
    exact ⟨v1, v2, v3, v4, e, f _ _ h1, f _ _ h2, f _ _ h3, f _ _ h4⟩⟩
theorem ItsP.nil (P : Value → List Int → Prop) : ItsP P [] [] := ⟨rfl, fun j x hj => by simp at hj⟩
theorem ItsP.take {P : Value → List Int → Prop} {L : List It} {cs : List (List Value)} (h : ItsP P L cs) (k : Nat) : ItsP P (L.take k) (cs.take k) :=
  ⟨by simp [h.len], fun j x hj => by
    rw [List.getElem?_take] at hj
    split at hj
    · obtain ⟨v1, v2, v3, v4, e, hh⟩ := h.at_ j x hj
      exact ⟨v1, v2, v3, v4, by rw [List.getElem?_take, if_pos (by assumption)]; exact e, hh⟩
    · cases hj⟩
theorem ItsP.drop {P : Value → List Int → Prop} {L : List It} {cs : List (List Value)} (h : ItsP P L cs) (k : Nat) : ItsP P (L.drop k) (cs.drop k) :=
  ⟨by simp [h.len], fun j x hj => by
    rw [List.getElem?_drop] at hj
    obtain ⟨v1, v2, v3, v4, e, hh⟩ := h.at_ _ x hj
    exact ⟨v1, v2, v3, v4, by rw [List.getElem?_drop]; exact e, hh⟩⟩
theorem ItsP.app {P : Value → List Int → Prop} {L M : List It} {cs ds : List (List Value)} (h : ItsP P L cs) (g : ItsP P M ds) : ItsP P (L ++ M) (cs ++ ds) :=
  ⟨by simp [h.len, g.len], fun j x hj => by
    by_cases hl : j < L.length
    · rw [List.getElem?_append_left hl] at hj
      obtain ⟨v1, v2, v3, v4, e, hh⟩ := h.at_ j x hj
      exact ⟨v1, v2, v3, v4, by rw [List.getElem?_append_left (by rw [h.len]; exact hl)]; exact e, hh⟩
    · rw [List.getElem?_append_right (by omega)] at hj
      obtain ⟨v1, v2, v3, v4, e, hh⟩ := g.at_ _ x hj
      exact ⟨v1, v2, v3, v4, by rw [List.getElem?_append_right (by rw [h.len]; omega), h.len]; exact e, hh⟩⟩
theorem its_of_C {w : World} {A : Option Addr} {L : List It} {cs : List (List Value)} (h : kI.C w A L.length cs) (hr : ItsP (ArgV w) L cs) : ItsAt w A L := by
  intro j x hj
  have hjl : j < L.length := (List.getElem?_eq_some_iff.1 hj).1
  obtain ⟨ad, hA, hc⟩ := h.2.2 (by omega)
  obtain ⟨v1, v2, v3, v4, e, h1, h2, h3, h4⟩ := hr.at_ j x hj
  obtain ⟨c, hcl, ⟨rfl, -, -⟩, hcell⟩ := hc j _ e
  exact ⟨ad, v1, v2, v3, v4, hA, fun i u hu => hcell i u hu, h1, h2, h3, h4⟩
end Go.Proofs.YtokebpeplopjhaaDoor.Mp
namespace Go.Proofs.YtokebpeplopjhaaDoor.Mp
open Go.RowKit Go.Shelf Go.Proofs.YtokebpeplopjhaaDoor.Rng Go.Proofs.YtokebpeplopjhaaDoorW.PrintWords Go.Proofs.YtokebpeplopjhaaDoorW.PrintMore Go.Proofs.YtokebpeplopjhaaDoorW.PrintLast

theorem mem_ins {L : List It} {k : Nat} {a y : It} : y ∈ L.take k ++ [a] ++ L.drop k ↔ y = a ∨ y ∈ L := by
  have e : y ∈ L ↔ y ∈ L.take k ∨ y ∈ L.drop k := by rw [← List.mem_append, List.take_append_drop]
  rw [e]
  simp only [List.mem_append, List.mem_singleton]
  constructor
  · rintro ((h | h) | h)
    · exact .inr (.inl h)
    · exact .inl h
    · exact .inr (.inr h)
  · rintro (h | h | h)
    · exact .inl (.inr h)
    · exact .inl (.inl h)
    · exact .inr h
theorem RefOf.ins {L : List It} {d : DD} {x : En} (k : Nat) (h : RefOf L d) (hx : d.D x.ix x.sub = none) (hS : 0 ≤ d.S x.ix) : RefOf (L.take k ++ [⟨x, firstC x⟩] ++ L.drop k) (d.add x) := by
  rw [add_eq]
  refine ⟨fun y hy => ?_, fun i s y hy => ?_, fun i => ?_⟩
  · rcases mem_ins.1 hy with rfl | hy
    · exact if_pos ⟨rfl, rfl⟩
    · have h1 := h.it y hy
      show (if y.ix = x.ix ∧ y.sub = x.sub then _ else _) = _
      rw [if_neg (fun e => by rw [e.1, e.2, hx] at h1; cases h1)]
      exact h1
  · have hy' : (if i = x.ix ∧ s = x.sub then some (⟨x, firstC x⟩ : It) else d.D i s) = some y := hy
    by_cases e : i = x.ix ∧ s = x.sub
    · rw [if_pos e] at hy'
      injection hy' with hy'
      subst hy'
      exact ⟨mem_ins.2 (.inl rfl), e.1.symm, e.2.symm⟩
    · rw [if_neg e] at hy'
      obtain ⟨h1, h2⟩ := h.ex i s y hy'
      exact ⟨mem_ins.2 (.inr h1), h2⟩
  · show 0 < (if i = x.ix then d.S x.ix + 1 else d.S i) ↔ _
    by_cases e : i = x.ix
    · rw [if_pos e]
      exact ⟨fun _ => ⟨_, mem_ins.2 (.inl rfl), e.symm⟩, fun _ => by omega⟩
    · rw [if_neg e, h.n i]
      constructor
      · rintro ⟨y, hy, e2⟩
        exact ⟨y, mem_ins.2 (.inr hy), e2⟩
      · rintro ⟨y, hy, e2⟩
        rcases mem_ins.1 hy with rfl | hy
        · exact absurd e2.symm e
        · exact ⟨y, hy, e2⟩
theorem RefOf.none : RefOf [] DD.none := ⟨fun x h => by simp at h, fun i s x h => by simp [DD.none] at h, fun i => by simp [DD.none]⟩
end Go.Proofs.YtokebpeplopjhaaDoor.Mp
