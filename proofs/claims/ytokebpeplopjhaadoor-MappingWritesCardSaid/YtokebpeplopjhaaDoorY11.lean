/- dict.New of any row; mapping.Pack of what may not be packed. The law's both: a dictionary, and the document's. What is packed, plainly: lengths, bits; gaps; there and back. The table of types, as the card lays it. A Map as an argument: what it reads. Entries, Maps and bytes as arguments: what they read. MappingBits, walked. Two dictionaries of the same entries, the program's and the document's; rows of Maps as rows of cells. -/
import Derived.Test.YtokebpeplopjhaaDoorY10
import Derived.Test.YtokebpeplopjhaaDoorRows
import Derived.Laws.IdiomElems
import Derived.WideKeyElems2
import Derived.LaidMore
import Derived.ProofKit
import Derived.OpenShut
import Derived.Stop.Joined
import Derived.WideShapes
import Derived.Deep.Slices
import Derived.ChangeSlices
import Derived.SizedLaws
import Derived.Deep.RegionHeld3
namespace Go.Proofs.YtokebpeplopjhaaDoor.Mp
open Go.RowKit Go.Shelf Go.Proofs.YtokebpeplopjhaaDoor.Rng Go.Proofs.YtokebpeplopjhaaDoorW.PrintWords Go.Proofs.YtokebpeplopjhaaDoorW.PrintMore Go.Proofs.YtokebpeplopjhaaDoorW.PrintLast

set_option maxRecDepth 100000 in
set_option maxHeartbeats 1000000 in
theorem new_big (B : Nat) (l : List En) (A : Option Addr) (c : Nat) (w : World) (hl : 1024 < l.length) (r : Int × Option DD) (hr : newR l = r) :
    Calls Tryd.prog 19 #[.slice A l.length c] w (NewSaid B w r) := by
  obtain rfl : r = (3, none) := by rw [← hr]; unfold newR; rw [if_pos hl]
  clear hr
  generalize l.length = n at hl ⊢
  have hd : decide ((1024 : Int) < (n : Int)) = true := decide_eq_true (by omega)
  go_enter Tryd.func19, Tryd.ntmps19
  go_wp2
  go_ret2
  exact ⟨Below.refl _ _, rfl⟩
theorem new_all (B : Nat) (l : List En) (A : Option Addr) (c : Nat) (w : World) (h : EsAt w A l) (hwf : ∀ e ∈ l, e.Wf) (ht : Tbl w) (hB : B ≤ w.heap.size) (r : Int × Option DD) (hr : newR l = r) :
    Calls Tryd.prog 19 #[.slice A l.length c] w (NewSaid B w r) := by
  by_cases hl : 1024 < l.length
  · exact new_big B l A c w hl r hr
  · exact new_any B l A c w h hwf ht hB (by omega) r hr
set_option maxRecDepth 100000 in
set_option maxHeartbeats 1000000 in
theorem pack_no (B : Nat) (v : Value) (o : Option DD) (l : List Mp) (A : Option Addr) (c : Nat) (w : World) (h : DictV B w v o) (ht : Tbl w) (hm : MsAt w A l) (hl : l.length ≤ 1000000) (hmw : ∀ m ∈ l, m.Wf) (hwf : ∀ i s, (findC o i s).1.Wf) (h0 : checkC o l true ≠ 0) :
    Calls Tryd.prog 22 #[v, .slice A l.length c] w fun e w' => e = .returned (.tuple #[.slice none 0 0, .int .u32 (checkC o l true)]) ∧ Below w.heap.size w w' := by
  have HCK := Aside0.mk (mcheck_any B v o l A c true w h ht hm hl hmw hwf)
  generalize checkC o l true = q at HCK h0 ⊢
  generalize l.length = n at HCK ⊢
  have q2 : (q != 0) = true := by simpa using h0
  have q1 : (q == 0) = false := by simpa using h0
  clear h ht hm hmw hwf
  go_enter Tryd.func22, Tryd.ntmps22
  go_wp2_with (go_at_call 21; refine HCK.out.mono ?_; rintro e w1 ⟨rfl, hb1⟩; have HB1 := Aside0.mk hb1; clear hb1)
  go_ret2
  exact ⟨rfl, HB1.out⟩
end Go.Proofs.YtokebpeplopjhaaDoor.Mp
namespace Go.Proofs.YtokebpeplopjhaaDoor.Mp
open Go.RowKit Go.Shelf Go.Proofs.YtokebpeplopjhaaDoor.Rng Go.Proofs.YtokebpeplopjhaaDoorW.PrintWords Go.Proofs.YtokebpeplopjhaaDoorW.PrintMore Go.Proofs.YtokebpeplopjhaaDoorW.PrintLast

theorem newC_c : ∀ (l : List En) (d : DD), (newC l d).2.c = d.c
  | [], _ => rfl
  | e :: r, d => by
    unfold newC
    split
    · rfl
    · split
      · rfl
      · rw [newC_c r (d.add e)]; rfl
theorem newR_none {l : List En} {q : Int} (h : newR l = (q, none)) : q ≠ 0 := by
  unfold newR at h
  split at h
  · injection h with h1 h2
    omega
  · injection h with h1 h2
    subst h1
    intro e
    rw [if_pos e] at h2
    cases h2
theorem newR_some {l : List En} {q : Int} {d : DD} (h : newR l = (q, some d)) : q = 0 ∧ d.c = 0 := by
  unfold newR at h
  split at h
  · injection h with h1 h2
    cases h2
  · injection h with h1 h2
    subst h1
    by_cases e : (newC l DD.none).1 = 0
    · rw [if_pos e] at h2
      injection h2 with h2
      exact ⟨e, by rw [← h2, newC_c]; rfl⟩
    · rw [if_neg e] at h2
      cases h2
theorem rnew_all (l : List En) (A : Option Addr) (c : Nat) (w : World) (h : EsAt w A l) (hwf : ∀ e ∈ l, e.Wf) (r : Int × Option DD) (hr : newR l = r) :
    Calls Tryd.prog 82 #[.slice A l.length c] w (RNewSaid w r) := by
  by_cases hl : 1024 < l.length
  · obtain rfl : r = (3, none) := by rw [← hr]; unfold newR; rw [if_pos hl]
    exact rnew_long _ c A w hl
  · exact rnew_any l A c w h hwf (by omega) r hr
theorem RefB.mono {B B' : Nat} {w : World} {g : Nat} {L : List It} {N : Int} (h : RefB B w g L N) (hB : B' ≤ B) : RefB B' w g L N := by
  obtain ⟨A, c, cs, h0, h1, h2, h3, h4, h5, h6⟩ := h
  exact ⟨A, c, cs, Nat.le_trans hB h0, h1, h2, h3, h4, h5, fun ad e => ⟨Nat.le_trans hB (h6 ad e).1, (h6 ad e).2⟩⟩
/-- What both tells. -/
def BothSaid (B : Nat) (w : World) (o : Option DD) (e : Ending) (w' : World) : Prop := Below w.heap.size w w' ∧ match o with
  | none => e = .returned (.tuple #[.pointer none, .pointer none])
  | some d => ∃ g bi bs gr L, e = .returned (.tuple #[.pointer (some ⟨g, 0, none⟩), .pointer (some ⟨gr, 0, none⟩)]) ∧ w.heap.size ≤ g ∧ w.heap.size ≤ bi ∧ w.heap.size ≤ bs ∧ DictB B w' g bi bs d ∧ RefB w.heap.size w' gr L d.c ∧ RefOf L d ∧ Srt L
set_option maxRecDepth 100000 in
set_option maxHeartbeats 1000000 in
theorem both_any (B : Nat) (l : List En) (A : Option Addr) (c : Nat) (w : World) (h : EsAt w A l) (hwf : ∀ e ∈ l, e.Wf) (ht : Tbl w) (hB : B ≤ w.heap.size) (o : Option DD) (ho : (newR l).2 = o) :
    Calls Tryd.prog 30 #[.slice A l.length c] w (BothSaid B w o) := by
  have HN := Aside0.mk (new_all B l A c w h hwf ht hB)
  have HR := Aside0.mk fun (X : World) (hX : Below w.heap.size w X) => rnew_all l A c X (h.below hX) hwf
  have HRW := Aside0.mk (And.intro h hwf)
  obtain ⟨q, hq⟩ : ∃ q, newR l = (q, o) := ⟨(newR l).1, by rw [← ho]⟩
  have HQ := Aside0.mk hq
  clear h hwf ht ho
  cases o with
  | none =>
    have hq0 : (q == 0) = false := by simpa using newR_none hq
    have hq1 : (q != 0) = true := by simpa using newR_none hq
    clear hq
    generalize l.length = n at HN HR ⊢
    go_enter Tryd.func30, Tryd.ntmps30
    go_wp2_with (first
      | (go_at_call 19; refine (HN.out _ HQ.out).mono ?_; rintro e w1 ⟨hb1, rfl⟩; have HB1 := Aside0.mk hb1; clear hb1)
      | (go_at_call 82; refine (HR.out _ HB1.out _ HQ.out).mono ?_; rintro e w2 ⟨hb2, rfl⟩; have HB2 := Aside0.mk (HB1.out.trans (hb2.mono HB1.out.size)); clear hb2))
    go_ret2
    exact ⟨HB2.out, rfl⟩
  | some d =>
    obtain ⟨rfl, hc⟩ := newR_some hq
    have HC := Aside0.mk hc
    clear hq hc
    generalize l.length = n at HN HR ⊢
    go_enter Tryd.func30, Tryd.ntmps30
    go_wp2_with (first
      | (go_at_call 19; refine (HN.out _ HQ.out).mono ?_; rintro e w1 ⟨hb1, g, bi, bs, rfl, h1, h2, h3, h4⟩; have HB1 := Aside0.mk hb1; have HD1 := Aside0.mk (And.intro h1 (And.intro h2 (And.intro h3 h4))); clear hb1 h1 h2 h3 h4)
      | (go_at_call 82; refine (HR.out _ HB1.out _ HQ.out).mono ?_; rintro e w2 ⟨hb2, gr, L, rfl, h2, h3, h4⟩; have HB2 := Aside0.mk hb2; have HD2 := Aside0.mk (And.intro h2 (And.intro h3 h4)); clear hb2 h2 h3 h4))
    go_ret2
    refine ⟨HB1.out.trans (HB2.out.mono HB1.out.size), g, bi, bs, gr, L, rfl, HD1.out.1, HD1.out.2.1, HD1.out.2.2.1, HD1.out.2.2.2.below HB2.out, ?_, HD2.out.2.1, HD2.out.2.2⟩
    rw [HC.out]
    exact HD2.out.1.mono HB1.out.size
end Go.Proofs.YtokebpeplopjhaaDoor.Mp
namespace Go.Proofs.YtokebpeplopjhaaDoor.Mp
open Go.Proofs.YtokebpeplopjhaaDoor.Num

theorem fits_len {t bits : Int} {v : List Int} (hf : fitsC t bits) (hp : plainC t v = 0) : (v.length : Int) = (bits + 7) / 8 := by
  obtain ⟨h1, h2⟩ := hf
  have hk := siz_pos.1 h1
  have h3 := (plainC_0 hp).2.2.1 hk.2
  rcases h2 with h2 | ⟨rfl, h2⟩
  · omega
  · have : siz 1 = 1 := rfl
    omega
theorem find_0 {d : DD} {i s : Int} (h : (findC (some d) i s).2 = 0) : ∃ x, d.D i s = some x ∧ findC (some d) i s = (x, 0) := by
  cases hd : d.D i s with
  | some x => exact ⟨x, rfl, by simp [findC, DD.at, hd]⟩
  | none =>
    simp only [findC, DD.at, hd] at h
    split at h <;> simp at h
theorem out_val {d : DD} (hd : Good d) {m : Mp} (h : oneC (some d) true m = 0) : ∃ x, d.D m.ix m.sub = some x ∧ findC (some d) m.ix m.sub = (x, 0) ∧ (x.val.length : Int) = (m.bits + 7) / 8 ∧ Byt x.val ∧ fitsC x.ty m.bits ∧ plainC x.ty x.val = 0 := by
  rcases one_0 h with ⟨_, h1⟩ | ⟨_, h2, _, h3⟩
  · cases h1
  · obtain ⟨x, hx, he⟩ := find_0 h2
    rw [he] at h3
    obtain ⟨_, _, _, h4, h5⟩ := hd.it _ _ x hx
    exact ⟨x, hx, he, fits_len h3 h4, h5, h3, h4⟩
theorem check_0 {o : Option DD} {l : List Mp} {out : Bool} (h : checkC o l out = 0) : (∀ m ∈ l, oneC o out m = 0) ∧ sumC l ≤ 64 ∧ l.length ≤ 64 := by
  unfold checkC at h
  split at h
  · simp at h
  · obtain ⟨h1, h2⟩ := check_all (by omega) h
    exact ⟨h1, h2, by omega⟩
theorem vals_ok {d : DD} (hd : Good d) {l : List Mp} (h : checkC (some d) l true = 0) : ∀ m ∈ l, m.bits.toNat ≤ 8 * (valC (some d) m).length := by
  intro m hm
  obtain ⟨x, _, he, hl, _⟩ := out_val hd ((check_0 h).1 m hm)
  have hb := one_bits ((check_0 h).1 m hm)
  unfold valC
  rw [he]
  simp only
  omega
theorem stC_app (o : Option DD) (a b : List Mp) : stC o (a ++ b) = stC o a ++ stC o b := by simp [stC]
theorem stC_len (o : Option DD) : ∀ l : List Mp, (∀ m ∈ l, 0 ≤ m.bits) → ((stC o l).length : Int) = sumC l
  | [], _ => rfl
  | m :: r, h => by
    have ih := stC_len o r (fun x hx => h x (by simp [hx]))
    have h0 := h m (by simp)
    have e : stC o (m :: r) = bitsL (valC o m) 0 m.bits.toNat ++ stC o r := by simp [stC]
    have e2 : sumC (m :: r) = m.bits + sumC r := by simp [sumC]
    rw [e, e2, List.length_append, bitsL_length]
    omega
theorem st_get (o : Option DD) (l : List Mp) (k : Nat) (m : Mp) (hk : l[k]? = some m) (j : Nat) (hj : j < m.bits.toNat) : (stC o l)[(stC o (l.take k)).length + j]?.getD 0 = bit (valC o m) j := by
  have hl : k < l.length := (List.getElem?_eq_some_iff.1 hk).1
  have e : l = l.take k ++ m :: l.drop (k + 1) := by
    conv => lhs; rw [← List.take_append_drop k l]
    rw [List.drop_eq_getElem_cons hl]
    rw [List.getElem?_eq_getElem hl] at hk
    injection hk with hk
    rw [hk]
  have e2 : stC o l = stC o (l.take k) ++ (bitsL (valC o m) 0 m.bits.toNat ++ stC o (l.drop (k + 1))) := by
    conv => lhs; rw [e]
    rw [stC_app]
    simp [stC]
  rw [e2, List.getElem?_append_right (by omega), Nat.add_sub_cancel_left, List.getElem?_append_left (by rw [bitsL_length]; exact hj), bitsL_get, if_pos hj, Nat.zero_add]
theorem pack_bit (o : Option DD) (l : List Mp) {k : Nat} (hk : k < 8 * sizeC l) : bit (packC o l) k = (stC o l)[k]?.getD 0 := bit_pkL (bits_stC o l) hk
theorem size_sum {o : Option DD} {l : List Mp} {out : Bool} (h : checkC o l out = 0) : sumC l = ((sumC l).toNat : Int) ∧ sizeC l = ((sumC l).toNat + 7) / 8 ∧ (sumC l).toNat ≤ 64 := by
  obtain ⟨h1, h2, _⟩ := check_0 h
  have h0 : 0 ≤ sumC l := sumC_nonneg (fun m hm => by have := one_bits (h1 m hm); omega)
  unfold sizeC
  omega
/-- One gap more ahead. -/
theorem outV_shift (b : List Int) (n at_ k : Nat) : outV b (8 * n + at_) k = outV (b.drop n) at_ k := by
  unfold outV bitsL
  congr 1
  apply List.map_congr_left
  intro j _
  unfold bit
  rw [show (8 * n + at_ + j) / 8 = n + (at_ + j) / 8 by omega, show (8 * n + at_ + j) % 8 = (at_ + j) % 8 by omega, List.getElem?_drop]
theorem unpA_shift (o : Option DD) (b : List Int) (n : Nat) : ∀ (l : List Mp) (at_ : Nat) (acc : List Vl), unpA o b l (8 * n + at_) acc = unpA o (b.drop n) l at_ acc
  | [], _, _ => rfl
  | m :: r, at_, acc => by
    unfold unpA
    rw [outV_shift, Nat.add_assoc, unpA_shift, unpA_shift]
theorem checkL_more {o : Option DD} {out : Bool} : ∀ {l : List Mp} {a b : Int}, a ≤ b → checkL o out l a = 0 → checkL o out l b = 0
  | [], _, _, _, _ => rfl
  | m :: r, a, b, h, h0 => by
    unfold checkL at h0 ⊢
    split at h0
    · rename_i h1
      exact absurd h0 h1
    · rename_i h1
      rw [if_neg h1]
      split at h0
      · simp at h0
      · rw [if_neg (by omega)]
        exact checkL_more (by omega) h0
theorem unpack_gap (d : DD) (g : Mp) (l : List Mp) (b : List Int) (n : Nat) (hg : gapC g) (hn : g.bits = 8 * n) (hb : n ≤ b.length) (h : checkC (some d) (g :: l) false = 0) :
    unpackC (some d) (g :: l) b = unpackC (some d) l (b.drop n) := by
  obtain ⟨h1, h2, h3⟩ := check_0 h
  have hl : checkC (some d) l false = 0 := by
    unfold checkC at h ⊢
    rw [if_neg (by omega)] at h
    rw [if_neg (by simp at h3; omega)]
    unfold checkL at h
    split at h
    · rename_i h4
      exact absurd h h4
    · split at h
      · simp at h
      · exact checkL_more (by omega) h
  have hs := size_sum h
  have hs2 := size_sum hl
  have hsum : sumC (g :: l) = g.bits + sumC l := by simp [sumC]
  have hlen : b.length < sizeC (g :: l) ↔ (b.drop n).length < sizeC l := by
    rw [List.length_drop]
    omega
  unfold unpackC
  rw [h, hl]
  simp only [ne_eq, not_true_eq_false, if_false]
  by_cases hc : (b.drop n).length < sizeC l
  · rw [if_pos hc, if_pos (hlen.2 hc)]
  · rw [if_neg hc, if_neg (fun x => hc (hlen.1 x))]
    rw [show unpA (some d) b (g :: l) 0 [] = if gapC g then unpA (some d) b l (0 + g.bits.toNat) [] else _ from rfl, if_pos hg, hn]
    have := unpA_shift (some d) b n l 0 []
    rw [Nat.add_zero] at this
    rw [← this, show 0 + (8 * (n : Int)).toNat = 8 * n by omega]
end Go.Proofs.YtokebpeplopjhaaDoor.Mp
namespace Go.Proofs.YtokebpeplopjhaaDoor.Mp
open Go.ChangeShapes Go.WideShapes Go.ChangeAt Go.WideElems Go.RowKit
open Go.Proofs.YtokebpeplopjhaaDoor.Rng

def tys : List Int := [1, 2, 3, 4, 5, 6, 7, 8, 9, 10, 12, 13, 15, 16, 17, 21, 22, 27]
theorem tys_all {t : Int} (h : knd t ≠ 0) : t ∈ tys := by
  have := form_cases t
  simp only [tys, List.mem_cons, List.not_mem_nil, or_false]
  omega
theorem tys_in {t : Int} (h : t ∈ tys) : (0 ≤ t ∧ t < 256) ∧ knd t ≠ 0 := by
  simp only [tys, List.mem_cons, List.not_mem_nil, or_false] at h
  rcases h with rfl | rfl | rfl | rfl | rfl | rfl | rfl | rfl | rfl | rfl | rfl | rfl | rfl | rfl | rfl | rfl | rfl | rfl <;> decide
def rowD (H : Type) (t : Int) : Lit × DataW H := (.int .u8 t, .agg [.lit (.int .u8 (knd t)), .lit (.int .i64 (siz t))])
theorem laid_eq (H : Type) : Rows.laid_campanile_types_table (H := H) = .map (tys.map (rowD H)) := rfl
theorem cells_form : Tryd.prog.cellsOf 200 = 2 := by kernel_rfl
theorem cells_8 : Tryd.prog.cellsOf 5 = 1 := by kernel_rfl
theorem cells_64 : Tryd.prog.cellsOf 3 = 1 := by kernel_rfl
theorem gTable : Tryd.prog.globalNamed "campanile/types.table" = some 0 := by kernel_rfl
theorem tTable : (Tryd.prog.globals[0]?).map (·.type) = some 201 := by kernel_rfl
set_option maxRecDepth 100000 in
theorem tbl_of_laid {W : World} (h : laidMetH Tryd.prog [("campanile/types.table", Rows.laid_campanile_types_table)] W) : Tbl W := by
  rw [MakeChecks.laidMetH_plain _ _ _ (by kernel_rfl)] at h
  obtain ⟨ps, ⟨g0, t0, cs0, f0, p0, q0, hg0, ht0, hv0, hd0, _, _⟩, _, _⟩ := h
  obtain rfl := Option.some.inj (gTable.symm.trans hg0)
  obtain rfl := Option.some.inj (tTable.symm.trans ht0)
  rcases open_map Tryd.underlying201 hd0 with ⟨_, hx⟩ | ⟨bm, es, clock, m, rfl, hcs, hb, _, F, hx⟩
  · rw [laid_eq] at hx
    simp at hx
  rw [laid_eq] at hx
  simp only [Prod.mk.injEq, DataW.map.injEq] at hx
  have hperm := hx.1 ▸ sorted_perm (es.toList.map (rg Tryd.prog 5 (elemAt _ Tryd.prog W 0 _ _ m 200)))
  have hlen := hperm.length_eq
  have hone : ∀ x ∈ es.toList, ∃ t ∈ tys, rg Tryd.prog 5 (elemAt (fun _ => ()) Tryd.prog W 0 (fun _ => true) false m 200) x = rowD Unit t ∧ x.key = .int .u8 t ∧ x.val = .agg #[.int .u8 (knd t), .int .i64 (siz t)] := by
    intro x hx
    have hm := hperm.mem_iff.2 (List.mem_map.2 ⟨x, hx, rfl⟩)
    obtain ⟨t, ht, he⟩ := List.mem_map.1 hm
    obtain ⟨y, hy⟩ := F.reads x hx
    rw [rg_of hy] at he
    have hk := rd_key hy
    obtain ⟨z, hz, hz2⟩ := rd_val hy
    rw [← he] at hk hz2
    have hb := tys_in ht
    obtain ⟨a, b, hv, rfl, -, -⟩ := elemAt_pair Tryd.underlying200 rfl rfl Tryd.underlying5 Tryd.underlying3 cells_8 cells_64 cells_form hz
    simp only [rowD, DataW.agg.injEq, List.cons.injEq, DataW.lit.injEq, Lit.int.injEq, true_and, and_true] at hz2
    obtain ⟨rfl, rfl⟩ := hz2
    exact ⟨t, ht, by rw [rg_of hy, he], law_u8.inj hk (key_u8 hb.1), hv⟩
  have hcell : W.cell? ⟨0, 0, none⟩ = some (.map (some bm)) := by
    have := World.var?_cell hg0 hv0 0
    rw [Array.eq_one_of_toList hcs] at this
    simpa using this
  refine ⟨bm, (Array.getElem?_eq_some_iff.1 hb).1, World.block_lt_of_cell? W _ hcell, hcell, es, clock, hb, F.stamped, ?_, F.keys, ?_, ?_⟩
  · simp [tys] at hlen
    omega
  · intro x hx
    obtain ⟨t, ht, _, hk, hv⟩ := hone x hx
    rw [hk, hv]
    simp [tblF, (tys_in ht).2]
  · intro key v hf
    unfold tblF at hf
    split at hf
    · rename_i t
      split at hf
      · cases hf
      · rename_i hk
        injection hf with hf
        have hm : rowD Unit t ∈ tys.map (rowD Unit) := List.mem_map.2 ⟨t, tys_all hk, rfl⟩
        obtain ⟨x, hx, he⟩ := List.mem_map.1 (hperm.mem_iff.1 hm)
        obtain ⟨t', _, e1, e2, e3⟩ := hone x hx
        rw [he] at e1
        have : t = t' := by
          have := congrArg Prod.fst e1
          simpa [rowD] using this
        subst this
        exact ⟨x, hx, e2, e3.trans hf⟩
    · cases hf
/-- The door's own heap meets the condition. -/
theorem door_met (os : Os) (args : Array Value) : laidMetH Tryd.prog [("campanile/types.table", Rows.laid_campanile_types_table)] ((World.doorLaid Tryd.prog 400 os).forCall (fun _ _ => 0) ⟨#[], args, []⟩).memory :=
  laidMetH_of_parts3 (fuel := 8) (laidMet_of_run' 8 (by kernel_rfl) (by kernel_rfl)) (by kernel_rfl) (by kernel_rfl)
end Go.Proofs.YtokebpeplopjhaaDoor.Mp
namespace Go.Proofs.YtokebpeplopjhaaDoor.Mp
open Go.RowKit Go.ChangeShapes Go.WideShapes

theorem cells_map : Tryd.prog.cellsOf 48 = 3 := by kernel_rfl
theorem cells_place : Tryd.prog.cellsOf 33 = 2 := by kernel_rfl
theorem cells_16 : Tryd.prog.cellsOf 31 = 1 := by kernel_rfl
theorem wf_8 {n : Int} (h : (Lit.int .u8 n).wf = true) : 0 ≤ n ∧ n < 256 := by
  have := bounds_u8 h
  omega
section
variable {H : Type} {enc : TypeId × Value → H} {W : World} {held : Bool}
set_option maxRecDepth 100000 in
theorem open_place {fuel : Nat} {cs : List Value} {x : DataW H × List MemPlace} (h : DataW.trod enc Tryd.prog W 0 (fun _ => true) held fuel 33 cs = some x) :
    ∃ i s : Int, cs = [.int .u16 i, .int .u8 s] ∧ (0 ≤ i ∧ i < 65536) ∧ (0 ≤ s ∧ s < 256) := by
  obtain ⟨y0, y1, n, rfl, hcl, g0, g1⟩ := trod_struct2 Tryd.underlying33 h
  rw [cells_place] at hcl
  match cs, hcl with
  | [c0, c1], _ =>
    simp [cells_16, cells_8] at g0 g1
    obtain ⟨i, hi, -, wi⟩ := DataW.trod_int Tryd.underlying31 g0
    obtain ⟨s, hs, -, ws⟩ := DataW.trod_int Tryd.underlying5 g1
    simp only [List.cons.injEq, and_true] at hi hs
    subst hi hs
    have := bounds_u16 wi
    exact ⟨i, s, rfl, by omega, wf_8 ws⟩
set_option maxRecDepth 100000 in
theorem open_map3 {fuel : Nat} {cs : List Value} {x : DataW H × List MemPlace} (h : DataW.trod enc Tryd.prog W 0 (fun _ => true) held fuel 48 cs = some x) :
    ∃ i s b : Int, cs = [.int .u16 i, .int .u8 s, .int .i64 b] ∧ Mp.Wf ⟨i, s, b⟩ := by
  obtain ⟨y0, y1, n, rfl, hcl, g0, g1⟩ := trod_struct2 Tryd.underlying48 h
  rw [cells_map] at hcl
  match cs, hcl with
  | [c0, c1, c2], _ =>
    simp [cells_place, cells_64] at g0 g1
    obtain ⟨i, s, he, hi, hs⟩ := open_place g0
    obtain ⟨b, hb, -, wb⟩ := DataW.trod_int Tryd.underlying3 g1
    simp only [List.cons.injEq, and_true] at he hb
    obtain ⟨rfl, rfl⟩ := he
    subst hb
    have := bounds_i64 wb
    exact ⟨i, s, b, rfl, hi, hs, by omega⟩
end
set_option maxRecDepth 100000 in
/-- A Map by value. -/
theorem open_mapV {H : Type} {enc : TypeId × Value → H} {W : World} {held : Bool} {r : Reach} {b0 : Nat} {v : Value} {d : DataW H} {p : List MemPlace} (hval : Value.okWide Tryd.prog W r b0 48 v) (h : DataW.Trod enc Tryd.prog W 0 (fun _ => true) held 48 v d p) :
    ∃ i s b : Int, v = .agg #[.int .u16 i, .int .u8 s, .int .i64 b] ∧ Mp.Wf ⟨i, s, b⟩ := by
  obtain ⟨cs, rfl, _⟩ := okWide_struct Tryd.underlying48 hval
  obtain ⟨m, hm⟩ := h
  obtain ⟨i, s, b, hc, hw⟩ := open_map3 hm
  refine ⟨i, s, b, ?_, hw⟩
  congr 1
  exact Array.toList_inj.1 hc
end Go.Proofs.YtokebpeplopjhaaDoor.Mp
namespace Go.Proofs.YtokebpeplopjhaaDoor.Mp
open Go.RowKit Go.Shelf Go.Proofs.YtokebpeplopjhaaDoor.Rng Go.Proofs.YtokebpeplopjhaaDoorW.PrintWords Go.Proofs.YtokebpeplopjhaaDoorW.PrintMore
open Go.ChangeShapes Go.WideShapes Go.Deep

theorem cells_s : Tryd.prog.cellsOf 9 = 1 := by kernel_rfl
theorem cells_bs : Tryd.prog.cellsOf 34 = 1 := by kernel_rfl
theorem cells_en : Tryd.prog.cellsOf 121 = 10 := by kernel_rfl
theorem bytes_u8 : Tryd.prog.bytesOf 5 = 1 := by kernel_rfl
theorem bytes_en : Tryd.prog.bytesOf 121 = 112 := by kernel_rfl
theorem bytes_mp : Tryd.prog.bytesOf 48 = 16 := by kernel_rfl
theorem bytes_vl : Tryd.prog.bytesOf 36 = 32 := by kernel_rfl

theorem mem_weightsAll {H : Type} {P : Program} {e : TypeId} {ds : List (DataW H)} {d : DataW H} {n : Nat} (hd : d ∈ ds) (hn : n ∈ d.weights P e) : n ∈ DataW.weightsAll P e ds := by
  induction ds with
  | nil => cases hd
  | cons y r ih =>
    simp only [DataW.weightsAll, List.mem_append]
    rcases List.mem_cons.1 hd with rfl | hd
    · exact .inl hn
    · exact .inr (ih hd)
theorem wf_u8 {n : Int} (h : (Lit.int .u8 n).wf = true) : 0 ≤ n ∧ n < 256 := by
  have h1 : IntKind.u8.min = 0 := rfl
  have h2 : IntKind.u8.max = 255 := rfl
  simp [Lit.wf] at h
  omega
theorem wf_u16 {n : Int} (h : (Lit.int .u16 n).wf = true) : 0 ≤ n ∧ n < 65536 := by
  have h1 : IntKind.u16.min = 0 := rfl
  have h2 : IntKind.u16.max = 65535 := rfl
  simp [Lit.wf] at h
  omega
section
variable {H : Type} {enc : TypeId × Value → H} {W : World} {held : Bool}
/-- A row of bytes. -/
theorem open_bs {fuel : Nat} {v : Value} {d : DataW H} {p : List MemPlace} (h : DataW.trod enc Tryd.prog W 0 (fun _ => true) held fuel 34 [v] = some (d, p)) (hwt : ∀ n ∈ d.weights Tryd.prog 34, n ≤ reachBytes) :
    ∃ zs : List Int, ArgV W v zs := by
  rcases open_ints Tryd.underlying34 Tryd.underlying5 cells_u8 h with ⟨hcs, hx⟩ | ⟨a, len, cap, zs, hcs, _, hl, hm, hz, hx, hcell, hw⟩
  · injection hcs with hcs
    subst hcs
    exact ⟨[], ArgV.nil W⟩
  · injection hcs with hcs
    subst hcs
    rw [if_pos rfl] at hz
    have hlen : (zs.take len).length = len := by rw [List.length_take]; omega
    have hmx : maxLen = 9223372036854775807 := rfl
    refine ⟨zs.take len, some a, cap, by rw [hlen], ⟨⟨by omega, fun _ => ⟨a, rfl, fun j hj => ?_⟩⟩, fun x hx' => ?_, by omega, by omega⟩, ?_⟩
    · rw [hcell j (by omega), List.getD_eq_getElem?_getD, List.getElem?_take, if_pos (by omega)]
    · exact wf_u8 (hw x (List.mem_of_mem_take hx'))
    · obtain ⟨hx, _⟩ := Prod.mk.inj hx
      subst hx
      have h1 := hwt ((lits (H := H) .u8 (zs.take len)).length * 1 + (lits (H := H) .u8 (zs.drop len)).length * 1) (by
        simp only [DataW.weights, Tryd.underlying34, bytes_u8]
        exact List.mem_cons.2 (.inl (by omega)))
      have h2 : (lits (H := H) .u8 (zs.take len)).length = (zs.take len).length := by simp [lits]
      have h3 : reachBytes = 140737488351232 := rfl
      omega
/-- An entry whose name may be great. -/
structure En.Wg (e : En) : Prop where
  ix : 0 ≤ e.ix ∧ e.ix < 65536
  sub : 0 ≤ e.sub ∧ e.sub < 256
  ty : 0 ≤ e.ty ∧ e.ty < 256
  rt : 0 ≤ e.rt ∧ e.rt < 256
  tag : 0 ≤ e.tag ∧ e.tag < 256
  grp : 0 ≤ e.grp ∧ e.grp < 256
  name : e.name.size ≤ 140737488355328
theorem En.Wg.wf {e : En} (h : e.Wg) (hn : e.name.size ≤ 1000000) : e.Wf := ⟨h.ix, h.sub, h.ty, h.rt, h.tag, h.grp, hn⟩
set_option maxRecDepth 100000 in
set_option maxHeartbeats 1000000 in
/-- One entry. -/
theorem open_en {fuel : Nat} {cs : List Value} {d : DataW H} {p : List MemPlace} (h : DataW.trod enc Tryd.prog W 0 (fun _ => true) held fuel 121 cs = some (d, p)) (hwt : ∀ n ∈ d.weights Tryd.prog 121, n ≤ reachBytes) :
    ∃ (e : En) (v1 v2 v3 : Value), cs = e.cells v1 v2 v3 ∧ ArgV W v1 e.df ∧ ArgV W v2 e.lo ∧ ArgV W v3 e.hi ∧ e.Wg := by
  obtain ⟨xs, n, rfl, hx, hcl, hxl, hf⟩ := DataW.trod_struct Tryd.underlying121 h
  rw [cells_en] at hcl
  match xs, hxl, cs, hcl with
  | [y0, y1, y2, y3, y4, y5, y6, y7, y8, y9], _, [c0, c1, c2, c3, c4, c5, c6, c7, c8, c9], _ =>
    have g0 := hf 0 _ rfl
    have g1 := hf 1 _ rfl
    have g2 := hf 2 _ rfl
    have g3 := hf 3 _ rfl
    have g4 := hf 4 _ rfl
    have g5 := hf 5 _ rfl
    have g6 := hf 6 _ rfl
    have g7 := hf 7 _ rfl
    have g8 := hf 8 _ rfl
    have g9 := hf 9 _ rfl
    clear hf
    simp [cells_16, cells_8, cells_s, cells_bs] at g0 g1 g2 g3 g4 g5 g6 g7 g8 g9
    obtain ⟨i0, e0, -, w0⟩ := DataW.trod_int Tryd.underlying31 g0
    obtain ⟨i1, e1, -, w1⟩ := DataW.trod_int Tryd.underlying5 g1
    obtain ⟨s, e2, hs2, ws⟩ := DataW.trod_string Tryd.underlying9 g2
    obtain ⟨i3, e3, -, w3⟩ := DataW.trod_int Tryd.underlying5 g3
    obtain ⟨i4, e4, -, w4⟩ := DataW.trod_int Tryd.underlying5 g4
    obtain ⟨i8, e8, -, w8⟩ := DataW.trod_int Tryd.underlying5 g8
    obtain ⟨i9, e9, -, w9⟩ := DataW.trod_int Tryd.underlying5 g9
    injection e0 with e0
    injection e1 with e1
    injection e2 with e2
    injection e3 with e3
    injection e4 with e4
    injection e8 with e8
    injection e9 with e9
    subst e0 e1 e2 e3 e4 e8 e9
    obtain ⟨hd, _⟩ := Prod.mk.inj hx
    subst hd
    have hw : ∀ (j : Nat) (t : TypeId) (dd : DataW H), [31, 5, 9, 5, 5, 34, 34, 34, 5, 5][j]? = some t → ([y0, y1, y2, y3, y4, y5, y6, y7, y8, y9].map (·.1))[j]? = some dd → ∀ n ∈ dd.weights Tryd.prog t, n ≤ reachBytes := by
      intro j t dd ht hdd n hn
      refine hwt n ?_
      simp only [DataW.weights, Tryd.underlying121]
      exact DataW.weights_mem_each (ts := [31, 5, 9, 5, 5, 34, 34, 34, 5, 5]) ht hdd n hn
    obtain ⟨d5, p5⟩ := y5
    obtain ⟨d6, p6⟩ := y6
    obtain ⟨d7, p7⟩ := y7
    obtain ⟨z5, a5⟩ := open_bs g5 (hw 5 _ _ rfl rfl)
    obtain ⟨z6, a6⟩ := open_bs g6 (hw 6 _ _ rfl rfl)
    obtain ⟨z7, a7⟩ := open_bs g7 (hw 7 _ _ rfl rfl)
    have hn := hw 2 _ _ rfl rfl s.size (by
      subst hs2
      simp [DataW.weights])
    have h3 : reachBytes = 140737488351232 := rfl
    exact ⟨⟨i0, i1, s, i3, i4, z5, z6, z7, i8, i9⟩, _, _, _, rfl, a5, a6, a7, ⟨wf_u16 w0, wf_u8 w1, wf_u8 w3, wf_u8 w4, wf_u8 w8, wf_u8 w9, by simp only; omega⟩⟩
/-- A row of entries. -/
theorem open_es {v : Value} {d : DataW H} {p : List MemPlace} (h : DataW.Trod enc Tryd.prog W 0 (fun _ => true) held 22 v d p) (hv : v.cells.toList = [v]) (hwt : ∀ n ∈ d.weights Tryd.prog 22, n ≤ reachBytes) :
    ∃ (l : List En) (A : Option Addr) (c : Nat), v = .slice A l.length c ∧ EsAt W A l ∧ (∀ e ∈ l, e.Wg ∧ Byt e.df) ∧ l.length ≤ 140737488355328 := by
  obtain ⟨fuel, hf⟩ := h
  rw [hv] at hf
  have h3 : reachBytes = 140737488351232 := rfl
  rcases open_slice Tryd.underlying22 hf with ⟨hcs, hx⟩ | ⟨a, len, cap, m, n, D, Pl, hcs, _, hl, hm, hmm, hx, hel⟩
  · injection hcs with hcs
    subst hcs
    exact ⟨[], none, 0, rfl, (fun j e hj => by simp at hj), (by intro x hx; cases hx), Nat.zero_le _⟩
  · injection hcs with hcs
    subst hcs
    rw [if_pos rfl] at hmm
    subst hmm
    rw [cells_en] at hel hx
    obtain ⟨hd, -⟩ := Prod.mk.inj hx
    subst hd
    have hwl : len ≤ reachBytes := by
      have h1 := hwt _ (by
        simp only [DataW.weights, Tryd.underlying22]
        exact List.mem_cons.2 (.inl rfl))
      rw [bytes_en] at h1
      simp only [List.length_map, List.length_range] at h1
      omega
    have each : ∀ i, i < len → ∃ q : En × Value × Value × Value, W.cells? 0 (a.add (i * 10)) 10 = some (q.1.cells q.2.1 q.2.2.1 q.2.2.2) ∧ ArgV W q.2.1 q.1.df ∧ ArgV W q.2.2.1 q.1.lo ∧ ArgV W q.2.2.2 q.1.hi ∧ q.1.Wg := by
      intro i hi
      obtain ⟨cs', h1, h2⟩ := hel i (by omega)
      obtain ⟨e, v1, v2, v3, rfl, r1, r2, r3, r4⟩ := open_en h2 (fun n hn => hwt n (by
        simp only [DataW.weights, Tryd.underlying22]
        refine List.mem_cons.2 (.inr (List.mem_append.2 (.inl ?_)))
        exact mem_weightsAll (List.mem_map.2 ⟨i, List.mem_range.2 hi, rfl⟩) hn))
      exact ⟨(e, v1, v2, v3), h1, r1, r2, r3, r4⟩
    haveI : Inhabited (En × Value × Value × Value) := ⟨(zEn, .int .u8 0, .int .u8 0, .int .u8 0)⟩
    obtain ⟨q, hq⟩ := choose_lt each
    have hlen : ((List.range len).map fun i => (q i).1).length = len := by simp
    refine ⟨(List.range len).map fun i => (q i).1, some a, m, by rw [hlen], fun j e hj => ?_, fun x hx => ?_, by omega⟩
    · have hjl : j < len := by have := (List.getElem?_eq_some_iff.1 hj).1; omega
      obtain ⟨h1, h2, h3, h4, _⟩ := hq j hjl
      have hxe : e = (q j).1 := by
        rw [List.getElem?_map, List.getElem?_range hjl] at hj
        exact (Option.some.inj hj).symm
      subst hxe
      refine ⟨a, (q j).2.1, (q j).2.2.1, (q j).2.2.2, rfl, fun i u hu => ?_, h2, h3, h4⟩
      obtain ⟨_, _, hcell⟩ := World.cells?_some h1
      have hi3 : i < 10 := by have := (List.getElem?_eq_some_iff.1 hu).1; simpa [En.cells] using this
      have h5 := hcell i (by simpa [En.cells] using hi3)
      rw [Go.Deep.add_add] at h5
      first | exact h5.trans hu | (rw [h5]; exact hu)
    · obtain ⟨i, hi, rfl⟩ := List.mem_map.1 hx
      obtain ⟨_, h2, _, _, h5⟩ := hq i (List.mem_range.1 hi)
      exact ⟨h5, h2.byt⟩
/-- A row of Maps. -/
theorem open_ms {v : Value} {d : DataW H} {p : List MemPlace} (h : DataW.Trod enc Tryd.prog W 0 (fun _ => true) held 23 v d p) (hv : v.cells.toList = [v]) (hwt : ∀ n ∈ d.weights Tryd.prog 23, n ≤ reachBytes) :
    ∃ (l : List Mp) (A : Option Addr) (c : Nat), v = .slice A l.length c ∧ MsAt W A l ∧ (∀ m ∈ l, m.Wf) ∧ l.length ≤ 140737488355328 := by
  obtain ⟨fuel, hf⟩ := h
  rw [hv] at hf
  have h3 : reachBytes = 140737488351232 := rfl
  rcases open_slice Tryd.underlying23 hf with ⟨hcs, hx⟩ | ⟨a, len, cap, m, n, D, Pl, hcs, _, hl, hm, hmm, hx, hel⟩
  · injection hcs with hcs
    subst hcs
    exact ⟨[], none, 0, rfl, (fun j e hj => by simp at hj), (by intro x hx; cases hx), Nat.zero_le _⟩
  · injection hcs with hcs
    subst hcs
    rw [if_pos rfl] at hmm
    subst hmm
    rw [cells_map] at hel hx
    obtain ⟨hd, -⟩ := Prod.mk.inj hx
    subst hd
    have hwl : len ≤ reachBytes := by
      have h1 := hwt _ (by
        simp only [DataW.weights, Tryd.underlying23]
        exact List.mem_cons.2 (.inl rfl))
      rw [bytes_mp] at h1
      simp only [List.length_map, List.length_range] at h1
      omega
    have each : ∀ i, i < len → ∃ q : Mp, W.cells? 0 (a.add (i * 3)) 3 = some [.int .u16 q.ix, .int .u8 q.sub, .int .i64 q.bits] ∧ q.Wf := by
      intro i hi
      obtain ⟨cs', h1, h2⟩ := hel i (by omega)
      obtain ⟨i0, s0, b0, rfl, hw⟩ := open_map3 h2
      exact ⟨⟨i0, s0, b0⟩, h1, hw⟩
    haveI : Inhabited Mp := ⟨⟨0, 0, 0⟩⟩
    obtain ⟨q, hq⟩ := choose_lt each
    have hlen : ((List.range len).map q).length = len := by simp
    refine ⟨(List.range len).map q, some a, m, by rw [hlen], fun j e hj => ?_, fun x hx => ?_, by omega⟩
    · have hjl : j < len := by have := (List.getElem?_eq_some_iff.1 hj).1; omega
      obtain ⟨h1, _⟩ := hq j hjl
      have hxe : e = q j := by
        rw [List.getElem?_map, List.getElem?_range hjl] at hj
        exact (Option.some.inj hj).symm
      subst hxe
      obtain ⟨_, _, hcell⟩ := World.cells?_some h1
      have f : ∀ (i : Nat) u, 0 < i → i < 3 → [Value.int .u16 (q j).ix, .int .u8 (q j).sub, .int .i64 (q j).bits][i]? = some u → W.cell? ⟨(a.add (j * 3)).block, (a.add (j * 3)).off + i, none⟩ = some u := fun i u h0 hi hu => by
        have h5 := hcell i (by simpa using hi)
        rw [← add_field _ _ i h0, ← Go.Deep.add_add]
        first | exact h5.trans hu | (rw [h5]; exact hu)
      refine ⟨a, rfl, ?_, f 1 _ (by omega) (by omega) rfl, f 2 _ (by omega) (by omega) rfl⟩
      have h5 := hcell 0 (by simp)
      rw [Go.Deep.add_add, Nat.add_zero] at h5
      simpa using h5
    · obtain ⟨i, hi, rfl⟩ := List.mem_map.1 hx
      exact (hq i (List.mem_range.1 hi)).2
end
end Go.Proofs.YtokebpeplopjhaaDoor.Mp
namespace Go.Proofs.YtokebpeplopjhaaDoor.Mp
open Go.RowKit Go.Shelf Go.Proofs.YtokebpeplopjhaaDoor.Rng Go.Proofs.YtokebpeplopjhaaDoorW.PrintWords Go.Proofs.YtokebpeplopjhaaDoorW.PrintMore Go.Proofs.YtokebpeplopjhaaDoorW.PrintLast

theorem newR_form {l : List En} (hl : ∀ e ∈ l, e.Wf ∧ Byt e.df) : (∃ r, newR l = (r, none) ∧ r ≠ 0) ∨ (∃ d, newR l = (0, some d) ∧ Good d) := by
  unfold newR
  by_cases h : 1024 < l.length
  · exact .inl ⟨3, by rw [if_pos h], by decide⟩
  · rw [if_neg h]
    by_cases h0 : (newC l DD.none).1 = 0
    · exact .inr ⟨_, by rw [if_pos h0, h0], good_new Good.none hl⟩
    · exact .inl ⟨_, by rw [if_neg h0], h0⟩
theorem small_wf {l : List En} (h : szL l 0 ≤ 5000) (hwg : ∀ e ∈ l, e.Wg ∧ Byt e.df) : ∀ e ∈ l, e.Wf ∧ Byt e.df := by
  intro e he
  obtain ⟨h1, h2⟩ := szL_small l 0 (by omega) h
  refine ⟨(hwg e he).1.wf ?_, (hwg e he).2⟩
  have := h2 e he
  unfold enSz at this
  omega
theorem and_bit {x : Int} (h : 0 ≤ x ∧ x < 256) (k : Nat) : bits .and .u8 (x / 2 ^ (k % 8)) 1 = x / 2 ^ (k % 8) % 2 := by
  have h2 : (0 : Int) < 2 ^ (k % 8) := Int.pow_pos (by decide)
  exact Num.and_one _ ⟨Int.ediv_nonneg h.1 (Int.le_of_lt h2), Int.lt_of_le_of_lt (Int.ediv_le_self _ h.1) h.2⟩
set_option maxRecDepth 100000 in
set_option maxHeartbeats 4000000 in
theorem bits_all (l : List En) (A : Option Addr) (c : Nat) (ms : List Mp) (A2 : Option Addr) (c2 : Nat) (w : World) (hE : EsAt w A l) (hwg : ∀ e ∈ l, e.Wg ∧ Byt e.df) (hl : l.length ≤ 140737488355328) (hM : MsAt w A2 ms) (hmw : ∀ m ∈ ms, m.Wf) (hml : ms.length ≤ 140737488355328) (ht : Tbl w) :
    Calls Tryd.prog 4 #[.slice A l.length c, .slice A2 ms.length c2] w fun e w' => e = .returned (.bool true) ∧ Below w.heap.size w w' := by
  have HSZ := Aside0.mk (size_es l A c w hE hl (fun e he => (hwg e he).1.name))
  have HT := Aside0.mk ht
  have HE := Aside0.mk hE
  have HM := Aside0.mk hM
  have HMW := Aside0.mk hmw
  have HSM := Aside0.mk fun h => small_wf (l := l) h hwg
  obtain ⟨s, hs⟩ : ∃ s, szL l 0 = s := ⟨_, rfl⟩
  rw [hs] at HSZ HSM
  obtain ⟨n, hn⟩ : ∃ n, ms.length = n := ⟨_, rfl⟩
  have HN := Aside0.mk hn
  rw [hn] at hml ⊢
  obtain ⟨nl, hnl⟩ : ∃ nl, l.length = nl := ⟨_, rfl⟩
  have HNL := Aside0.mk hnl
  rw [hnl] at HSZ ⊢
  clear hE hM hmw ht hs hn hnl hwg hl
  by_cases h1 : 5000 < s
  · go_enter Tryd.func4, Tryd.ntmps4
    go_wp2_with (first
      | (go_at_call 17; refine HSZ.out.mono ?_; rintro e w1 ⟨rfl, hb1⟩; have HB1 := Aside0.mk hb1; clear hb1)
      | (go_at_call 18; refine (works_any _ (HT.out.below HB1.out)).mono ?_; rintro e w4 ⟨rfl, hb4⟩; have HB4 := Aside0.mk (HB1.out.trans (hb4.mono HB1.out.size)); clear hb4))
    go_ret
    exact ⟨rfl, HB4.out⟩
  by_cases h2 : 100 < n
  · go_enter Tryd.func4, Tryd.ntmps4
    go_wp2_with (first
      | (go_at_call 17; refine HSZ.out.mono ?_; rintro e w1 ⟨rfl, hb1⟩; have HB1 := Aside0.mk hb1; clear hb1)
      | (go_at_call 18; refine (works_any _ (HT.out.below HB1.out)).mono ?_; rintro e w4 ⟨rfl, hb4⟩; have HB4 := Aside0.mk (HB1.out.trans (hb4.mono HB1.out.size)); clear hb4))
    go_ret
    exact ⟨rfl, HB4.out⟩
  have hwf := HSM.out (by omega)
  have HWF := Aside0.mk hwf
  rcases newR_form hwf with ⟨r, hr, hr0⟩ | ⟨d, hr, hd⟩
  · have HR := Aside0.mk hr
    have q1 : (r == 0) = false := by simpa using hr0
    have q2 : (r != 0) = true := by simpa using hr0
    clear hr hwf
    go_enter Tryd.func4, Tryd.ntmps4
    go_wp2_with (first
      | (go_at_call 17; refine HSZ.out.mono ?_; rintro e w1 ⟨rfl, hb1⟩; have HB1 := Aside0.mk hb1; clear hb1)
      | (go_at_call 19; rw [← HNL.out]; refine (new_all w.heap.size l A c w1 (HE.out.below HB1.out) (fun e he => (HWF.out e he).1) (HT.out.below HB1.out) HB1.out.size _ HR.out).mono ?_; rw [HNL.out]; rintro e w2 ⟨hb2, rfl⟩; have HB2 := Aside0.mk (HB1.out.trans (hb2.mono HB1.out.size)); clear hb2)
      | (go_at_call 18; refine (works_any _ (HT.out.below HB2.out)).mono ?_; rintro e w4 ⟨rfl, hb4⟩; have HB4 := Aside0.mk (HB2.out.trans (hb4.mono HB2.out.size)); clear hb4))
    go_ret
    exact ⟨rfl, HB4.out⟩
  have HR := Aside0.mk hr
  have HG := Aside0.mk hd
  clear hr hd hwf
  by_cases hc : checkC (some d) ms true = 0
  case neg =>
    have HC := Aside0.mk hc
    obtain ⟨q, hq⟩ : ∃ q, checkC (some d) ms true = q := ⟨_, rfl⟩
    have HQ := Aside0.mk hq
    rw [hq] at hc
    have q1 : (q == 0) = false := by simpa using hc
    have q2 : (q != 0) = true := by simpa using hc
    clear hq
    go_enter Tryd.func4, Tryd.ntmps4
    go_wp2_with (first
      | (go_at_call 17; refine HSZ.out.mono ?_; rintro e w1 ⟨rfl, hb1⟩; have HB1 := Aside0.mk hb1; clear hb1)
      | (go_at_call 19; rw [← HNL.out]; refine (new_all w.heap.size l A c w1 (HE.out.below HB1.out) (fun e he => (HWF.out e he).1) (HT.out.below HB1.out) HB1.out.size _ HR.out).mono ?_; rw [HNL.out]; rintro e w2 ⟨hb2, gd, bi, bs, rfl, hg, hbi, hbs, hD⟩; have HB2 := Aside0.mk (HB1.out.trans (hb2.mono HB1.out.size)); have HD := Aside0.mk hD; clear hb2 hD hg hbi hbs)
      | (go_at_call 22; rw [← HN.out]; refine (pack_no w.heap.size _ (some d) ms A2 c2 w2 ⟨gd, rfl, HD.out.dict⟩ (HT.out.below HB2.out) (HM.out.below HB2.out) (by have := HN.out; omega) HMW.out HG.out.find HC.out).mono ?_; rw [HQ.out, HN.out]; rintro e w3 ⟨rfl, hb3⟩; have HB3 := Aside0.mk (HB2.out.trans (hb3.mono HB2.out.size)); clear hb3)
      | (go_at_call 18; refine (works_any _ (HT.out.below HB3.out)).mono ?_; rintro e w4 ⟨rfl, hb4⟩; have HB4 := Aside0.mk (HB3.out.trans (hb4.mono HB3.out.size)); clear hb4))
    go_ret
    exact ⟨rfl, HB4.out⟩
  case pos =>
    obtain ⟨hz1, hz2, hz3⟩ := size_sum hc
    obtain ⟨tot, htot⟩ : ∃ tot, (sumC ms).toNat = tot := ⟨_, rfl⟩
    rw [htot] at hz1 hz2 hz3
    obtain ⟨sz, hsz⟩ : ∃ sz, sizeC ms = sz := ⟨_, rfl⟩
    have HSZE := Aside0.mk hsz
    have HTOT := Aside0.mk hz1
    rw [hsz] at hz2
    have HZ2 := Aside0.mk hz2
    have hszle : sz ≤ 8 := by omega
    clear hz2
    have HC := Aside0.mk hc
    have HVO := Aside0.mk (vals_ok HG.out hc)
    have HBP := Aside0.mk (show ∀ m ∈ ms, 0 ≤ m.bits from fun m hm => by have := one_bits ((check_0 hc).1 m hm); omega)
    clear hz1 htot hsz hc
    go_enter Tryd.func4, Tryd.ntmps4
    go_wp2_with (first
      | (go_at_call 17; refine HSZ.out.mono ?_; rintro e w1 ⟨rfl, hb1⟩; have HB1 := Aside0.mk hb1; clear hb1)
      | (go_at_call 19; rw [← HNL.out]; refine (new_all w.heap.size l A c w1 (HE.out.below HB1.out) (fun e he => (HWF.out e he).1) (HT.out.below HB1.out) HB1.out.size _ HR.out).mono ?_; rw [HNL.out]; rintro e w2 ⟨hb2, gd, bi, bs, rfl, hg, hbi, hbs, hD⟩; have HB2 := Aside0.mk (HB1.out.trans (hb2.mono HB1.out.size)); have HD := Aside0.mk hD; clear hb2 hD hg hbi hbs)
      | (go_at_call 22; rw [← HN.out]; refine (Num.pack_any w.heap.size _ (some d) ms A2 c2 w2 ⟨gd, rfl, HD.out.dict⟩ (HT.out.below HB2.out) (HM.out.below HB2.out) (by have := HN.out; omega) HMW.out HG.out.find HC.out HVO.out).mono ?_; rw [HSZE.out, HN.out]; rintro e w3 ⟨gp, rfl, hgp, hrow, hb3⟩; have HB3 := Aside0.mk (HB2.out.trans (hb3.mono HB2.out.size)); have HD3 := Aside0.mk (HD.out.below hb3); have HROW := Aside0.mk hrow; clear hb3 hrow hgp))
    go_loopw [9, 10] (fun av iv wr => ∃ (k p : Nat), k ≤ n ∧ iv = .int .i64 k ∧ av = .int .i64 p ∧ p ≤ 64 ∧ Aside0 ((p : Int) = sumC (ms.take k)) ∧ Aside0 (Below w3.heap.size w3 wr)) (fun _ iv _ => n - (intOf iv).toNat)
    case atStart => exact ⟨0, 0, Nat.zero_le _, rfl, rfl, by omega, ⟨by simp [sumC]⟩, ⟨Below.refl _ _⟩⟩
    case round =>
      obtain ⟨k, p, hk, rfl, rfl, hp, HP, HB⟩ := hrel
      by_cases hlt : k < n
      · obtain ⟨m, hmk⟩ : ∃ m, ms[k]? = some m := ⟨_, List.getElem?_eq_getElem (by rw [HN.out]; exact hlt)⟩
        have HW := Aside0.mk (HB3.out.trans (HB.out.mono HB3.out.size))
        obtain ⟨ad, rfl, y0, y1, y2⟩ := HM.out.below HW.out k m hmk
        have hmem := List.mem_of_getElem? hmk
        obtain ⟨hw1, hw2, hw3⟩ := HMW.out m hmem
        have hbt := one_bits ((check_0 HC.out).1 m hmem)
        obtain ⟨x, hx, he, hlen, hbyt, -, -⟩ := out_val HG.out ((check_0 HC.out).1 m hmem)
        have hst := sumC_take ms k m hmk
        have hsl := (sumC_le HBP.out (k + 1)).2
        have hget := st_get (some d) ms k m hmk
        have hstl := stC_len (some d) (ms.take k) (fun y hy => HBP.out y (List.mem_of_mem_take hy))
        have hval : valC (some d) m = x.val := by unfold valC; rw [he]
        rw [hval] at hget
        obtain ⟨ix, sub, bits⟩ := m
        obtain ⟨nb, rfl⟩ : ∃ nb : Nat, bits = nb := ⟨bits.toNat, by simp only at hbt; omega⟩
        simp only [Int.toNat_natCast] at hbt hw1 hw2 hw3 y0 y1 y2 hst hsl hget he hlen
        rw [← HP.out] at hst hstl
        have hpl : (stC (some d) (ms.take k)).length = p := by omega
        rw [hpl] at hget
        have hpn : p + nb ≤ tot := by have := HTOT.out; omega
        have hst' : ((p + nb : Nat) : Int) = sumC (ms.take (k + 1)) := by omega
        have HST := Aside0.mk hst'
        have HGT := Aside0.mk hget
        have HBY := Aside0.mk hbyt
        obtain ⟨vn, hvn⟩ : ∃ vn, x.val.length = vn := ⟨_, rfl⟩
        have HVN := Aside0.mk hvn
        rw [hvn] at hlen
        have hvn2 : ((nb : Int) + 7) / 8 = (vn : Int) := by omega
        have HGE := Aside0.mk (get_any w.heap.size (.pointer (some ⟨gd, 0, none⟩)) (some d) ix sub hw1 hw2 wr ⟨gd, rfl, (HD3.out.below HB.out).dict⟩)
        rw [he] at HGE
        have HY2 := Aside0.mk y2
        clear hst hsl hget hstl hpl hst' hmem hmk hval hvn hbyt he hx hlen
        go_wp2_with (go_at_call 25; refine HGE.out.mono ?_; rintro e w4 ⟨v5, rfl, ⟨A5, c5, rfl, ha5, -⟩, hb4⟩; rw [HVN.out]; have HA5 := Aside0.mk ha5; have HB4 := Aside0.mk (HB.out.trans (hb4.mono HB.out.size)); have y3 := pw_cell_below hb4 HY2.out; clear ha5 hb4)
        have HD4 := Aside0.mk (HROW.out)
        go_loopw [9, 13] (fun av kv wi => ∃ j q : Nat, j ≤ nb ∧ Aside0 (q = p + j) ∧ kv = .int .i64 j ∧ av = .int .i64 q ∧ Aside0 (Below w4.heap.size w4 wi)) (fun _ kv _ => nb - (intOf kv).toNat)
        case atStart => exact ⟨0, p, Nat.zero_le _, ⟨rfl⟩, rfl, rfl, ⟨Below.refl _ _⟩⟩
        case round =>
          obtain ⟨j, q, hj, HQ, rfl, rfl, HBI⟩ := hrel
          have hqp := HQ.out
          by_cases hjl : j < nb
          · have y4 := pw_cell_below HBI.out y3
            have hb34 := HB4.out.trans (HBI.out.mono HB4.out.size)
            have hq8 : q / 8 < (packC (some d) ms).length := by
              unfold packC
              rw [pkL_length, HSZE.out]
              have := HZ2.out
              omega
            have hrow : Num.RowB wr gp (packC (some d) ms) := (hb34.block gp (Array.getElem?_eq_some_iff.1 HROW.out).1).trans HROW.out
            have hc1 := (hrow.cell (q / 8) hq8).1
            have hv8 : j / 8 < x.val.length := by rw [HVN.out]; omega
            obtain ⟨ad5, hA5, hc2⟩ := (HA5.out.rd.below HBI.out).at_ (j / 8) hv8
            subst hA5
            have hb1 : 0 ≤ (packC (some d) ms)[q / 8]?.getD 0 ∧ (packC (some d) ms)[q / 8]?.getD 0 < 256 := by
              rw [List.getElem?_eq_getElem hq8, Option.getD_some]
              exact pkL_byt (Num.bits_stC _ _) _ _ (List.getElem_mem hq8)
            have hb2 : 0 ≤ x.val[j / 8]?.getD 0 ∧ x.val[j / 8]?.getD 0 < 256 := by
              rw [List.getElem?_eq_getElem hv8, Option.getD_some]
              exact HBY.out _ (List.getElem_mem hv8)
            have hq1 := and_bit hb1 q
            have hq2 := and_bit hb2 j
            have hbb : bit (packC (some d) ms) q = bit x.val j := by
              rw [pack_bit (some d) ms (by rw [HSZE.out]; have := HZ2.out; omega)]
              rw [hqp]
              exact HGT.out j hjl
            rw [show (packC (some d) ms)[q / 8]?.getD 0 / 2 ^ (q % 8) % 2 = bit x.val j from hbb] at hq1
            rw [show x.val[j / 8]?.getD 0 / 2 ^ (j % 8) % 2 = bit x.val j from rfl] at hq2
            generalize bit x.val j = bb at hq1 hq2
            generalize (packC (some d) ms)[q / 8]?.getD 0 = z1 at hq1 hc1
            generalize x.val[j / 8]?.getD 0 = z2 at hq2 hc2
            have hc1' : ∀ X, Below wr.heap.size wr X → X.cell? ⟨gp, q / 8, none⟩ = some (.int .u8 z1) := fun X hX => pw_cell_below hX hc1
            have hc2' : ∀ X, Below wr.heap.size wr X → X.cell? (ad5.add (j / 8)) = some (.int .u8 z2) := fun X hX => pw_cell_below hX hc2
            have hS0 : Below wr.heap.size wr wr := Below.refl _ _
            have hge : decide (IntKind.i64.wrap (8 * (sz : Int)) ≤ (q : Int)) = false := decide_eq_false (by rw [wrap_ok (by omega)]; have := HZ2.out; omega)
            have hi1 : (q : Int) / 8 < (sz : Int) := by have := HZ2.out; omega
            have hi2 : (j : Int) / 8 < (vn : Int) := by omega
            have hi3 : (0 : Int) ≤ (q : Int) / 8 := by omega
            have hi4 : (0 : Int) ≤ (j : Int) / 8 := by omega
            have hi5 : ((q : Int) / 8).toNat = q / 8 := by omega
            have hi6 : ((j : Int) / 8).toNat = j / 8 := by omega
            have hi7 : IntKind.i64.wrap ((q : Int) / 8) = (q : Int) / 8 := wrap_ok (by omega)
            have hi8 : IntKind.i64.wrap ((j : Int) / 8) = (j : Int) / 8 := wrap_ok (by omega)
            have ht1 : Int.tmod (q : Int) 8 = (q : Int) % 8 := Int.tmod_eq_emod_of_nonneg (by omega)
            have ht2 : Int.tmod (j : Int) 8 = (j : Int) % 8 := Int.tmod_eq_emod_of_nonneg (by omega)
            have ht3 : ((q : Int) % 8).toNat = q % 8 := by omega
            have ht4 : ((j : Int) % 8).toNat = j % 8 := by omega
            have ht5 : (0 : Int) ≤ (q : Int) % 8 := by omega
            have ht6 : (0 : Int) ≤ (j : Int) % 8 := by omega
            clear hqp
            clear hb34 hq8 hrow hc1 hv8 hc2 hb1 hb2 hbb hvn2
            go_wp2
            go_region_held3 (fun X => Below wr.heap.size wr X) (first | assumption | exact below_step (by assumption) (by assumption) | exact below_drew (by assumption))
              (fail)
            go_wp2
            go_roundw
            case rel => exact ⟨j + 1, q + 1, by omega, ⟨by have := HQ.out; omega⟩, by go_num, by go_num, ⟨HBI.out.drew⟩⟩
            case measure => simp [intOf]; omega
          · obtain rfl : j = nb := by omega
            have y4 := pw_cell_below HBI.out y3
            go_wp2
            go_roundw
            case rel => exact ⟨k + 1, q, by omega, by go_num, rfl, by omega, ⟨by rw [← HST.out, hqp]⟩, ⟨HB4.out.trans (HBI.out.mono HB4.out.size)⟩⟩
            case measure => simp [intOf]; omega
      · obtain rfl : k = n := by omega
        have hpt : p = tot := by
          have h1 := HP.out
          have h2 := HTOT.out
          rw [List.take_of_length_le (by rw [HN.out]; exact Nat.le_refl _)] at h1
          omega
        subst hpt
        go_wp2
        go_loopw [14] (fun kv wi => ∃ q : Nat, p ≤ q ∧ q ≤ 8 * sz ∧ kv = .int .i64 q ∧ Aside0 (Below wr.heap.size wr wi)) (fun kv _ => 8 * sz - (intOf kv).toNat)
        case atStart => exact ⟨p, Nat.le_refl _, by have := HZ2.out; omega, rfl, ⟨Below.refl _ _⟩⟩
        case round =>
          obtain ⟨q, hpq, hq, rfl, HBI⟩ := hrel
          have hq9 : (q : Int) / 8 < (sz : Int) ∨ q = 8 * sz := by omega
          have hw8 : IntKind.i64.wrap (8 * (sz : Int)) = 8 * (sz : Int) := wrap_ok (by omega)
          by_cases hql : q < 8 * sz
          · have hb34 := HB.out.trans (HBI.out.mono HB.out.size)
            have hq8 : q / 8 < (packC (some d) ms).length := by
              unfold packC
              rw [pkL_length, HSZE.out]
              have := HZ2.out
              omega
            have hrow : Num.RowB wr gp (packC (some d) ms) := (hb34.block gp (Array.getElem?_eq_some_iff.1 HROW.out).1).trans HROW.out
            have hc1 := (hrow.cell (q / 8) hq8).1
            have hb1 : 0 ≤ (packC (some d) ms)[q / 8]?.getD 0 ∧ (packC (some d) ms)[q / 8]?.getD 0 < 256 := by
              rw [List.getElem?_eq_getElem hq8, Option.getD_some]
              exact pkL_byt (Num.bits_stC _ _) _ _ (List.getElem_mem hq8)
            have hq1 := and_bit hb1 q
            have hbb : bit (packC (some d) ms) q = 0 := by
              rw [pack_bit (some d) ms (by rw [HSZE.out]; omega), List.getElem?_eq_none]
              · rfl
              · have := stC_len (some d) ms HBP.out
                have := HTOT.out
                omega
            rw [show (packC (some d) ms)[q / 8]?.getD 0 / 2 ^ (q % 8) % 2 = 0 from hbb] at hq1
            generalize (packC (some d) ms)[q / 8]?.getD 0 = z1 at hq1 hc1
            clear hb34 hq8 hrow hb1 hbb
            go_wp2
            go_roundw
            case rel => exact ⟨q + 1, by omega, by omega, by go_num, HBI⟩
            case measure => simp [intOf]; omega
          · obtain rfl : q = 8 * sz := by omega
            have hse : (((p : Int) + 7) / 8) = (sz : Int) := by have := HZ2.out; omega
            have HBF := Aside0.mk (HB3.out.trans ((HB.out.trans (HBI.out.mono HB.out.size)).mono HB3.out.size))
            go_wp2_with (go_at_call 18; refine (works_any _ (HT.out.below HBF.out)).mono ?_; rintro e w5 ⟨rfl, hb5⟩; have HB5 := Aside0.mk (HBF.out.trans (hb5.mono HBF.out.size)); clear hb5)
            go_ret
            exact ⟨rfl, HB5.out⟩
end Go.Proofs.YtokebpeplopjhaaDoor.Mp
namespace Go.Proofs.YtokebpeplopjhaaDoor.Mp
open Go.RowKit Go.Shelf Go.Proofs.YtokebpeplopjhaaDoor.Rng Go.Proofs.YtokebpeplopjhaaDoorW.PrintWords Go.Proofs.YtokebpeplopjhaaDoorW.PrintMore Go.Proofs.YtokebpeplopjhaaDoorW.PrintLast

theorem info_qm : (Tryd.prog.info? 48).map (fun i => (i.zero, i.size, i.bytes)) = some (some (.agg #[.int .u16 0, .int .u8 0, .int .i64 0]), 3, 16) := by kernel_rfl
theorem qs_rows {w w0 : World} {A : Option Addr} {l : List Mp} (h : MsAt w A l) (hl : l.length ≤ 9223372036854775807) : ReadsRow (fun x cs => kQ.K w0 x cs) 3 w A l.length (l.map qT) := by
  refine ⟨by simp, hl, fun h0 => ?_⟩
  obtain ⟨ad, rfl, -⟩ := h 0 _ (List.getElem?_eq_getElem h0)
  refine ⟨ad, rfl, fun j p hj => ?_⟩
  obtain ⟨m, hm, rfl⟩ := List.getElem?_map (f := qT) ▸ hj |> Option.map_eq_some_iff.1
  obtain ⟨ad2, e, y0, y1, y2⟩ := h j m hm
  injection e with e
  subst e
  refine ⟨[.int .u16 m.ix, .int .u8 m.sub, .int .i64 m.bits], rfl, ⟨[.int .u16 m.ix, .int .u8 m.sub], [.int .i64 m.bits], rfl, ⟨[.int .u16 m.ix], [.int .u8 m.sub], rfl, rfl, rfl⟩, rfl⟩, fun i u hu => ?_⟩
  match i, hu with
  | 0, hu => injection hu with hu; subst hu; exact y0
  | 1, hu => injection hu with hu; subst hu; rw [add_field _ _ 1 (by omega)]; exact y1
  | 2, hu => injection hu with hu; subst hu; rw [add_field _ _ 2 (by omega)]; exact y2
/-- Both are nil, or both hold these entries. -/
def Two (B : Nat) (w : World) (vd vm : Value) : Option DD → Prop
  | none => vd = .pointer none ∧ vm = .pointer none
  | some d => ∃ gd gr L, vd = .pointer (some ⟨gd, 0, none⟩) ∧ vm = .pointer (some ⟨gr, 0, none⟩) ∧ Dict B w gd d ∧ RefAt w gr L d.c ∧ RefOf L d
theorem Two.below {B : Nat} {w w' : World} {vd vm : Value} : ∀ {o : Option DD}, Two B w vd vm o → Below w.heap.size w w' → Two B w' vd vm o
  | none, h, _ => h
  | some _, ⟨gd, gr, L, e1, e2, h1, h2, h3⟩, hb => ⟨gd, gr, L, e1, e2, h1.below hb, h2.below hb, h3⟩
theorem Two.d {B : Nat} {w : World} {vd vm : Value} : ∀ {o : Option DD}, Two B w vd vm o → DictV B w vd o
  | none, h => h.1
  | some _, ⟨gd, _, _, e1, _, h1, _, _⟩ => ⟨gd, e1, h1⟩
theorem Two.m {B : Nat} {w : World} {vd vm : Value} : ∀ {o : Option DD}, Two B w vd vm o → RefV w vm o
  | none, h => h.2
  | some _, ⟨_, gr, L, _, e2, _, h2, h3⟩ => ⟨gr, L, _, e2, h2, h3⟩
theorem both_two {B : Nat} {w : World} {o : Option DD} {e : Ending} {w' : World} (h : BothSaid B w o e w') : ∃ vd vm, e = .returned (.tuple #[vd, vm]) ∧ Two B w' vd vm o ∧ Below w.heap.size w w' := by
  obtain ⟨hb, h⟩ := h
  cases o with
  | none => exact ⟨_, _, h, ⟨rfl, rfl⟩, hb⟩
  | some d =>
    obtain ⟨g, bi, bs, gr, L, e1, -, -, -, h1, h2, h3, -⟩ := h
    exact ⟨_, _, e1, ⟨g, gr, L, rfl, rfl, h1.dict, h2.at_, h3⟩, hb⟩
/-- The dictionary of good entries is good. -/
theorem newR_find {l : List En} (hl : ∀ e ∈ l, e.Wf ∧ Byt e.df) (i s : Int) : (findC (newR l).2 i s).1.Wf := by
  rcases newR_form hl with ⟨r, hr, -⟩ | ⟨d, hr, hd⟩
  · rw [hr]
    exact Good.find Good.none i s |> fun h => by simpa [findC, DD.at, DD.none] using h
  · rw [hr]
    exact hd.find i s
theorem newR_good {l : List En} (hl : ∀ e ∈ l, e.Wf ∧ Byt e.df) {d : DD} (h : (newR l).2 = some d) : Good d := by
  rcases newR_form hl with ⟨r, hr, -⟩ | ⟨d', hr, hd⟩
  · rw [hr] at h
    cases h
  · rw [hr] at h
    injection h with h
    exact h ▸ hd
theorem ref_range {L : List It} {d : DD} (h : RefOf L d) (hd : Good d) : ∀ x ∈ L, (0 ≤ x.ix ∧ x.ix < 65536) ∧ (0 ≤ x.sub ∧ x.sub < 256) := by
  intro x hx
  have hf := hd.find x.ix x.sub
  rw [show findC (some d) x.ix x.sub = (x, 0) by simp [findC, DD.at, h.it x hx]] at hf
  exact ⟨hf.ix, hf.sub⟩
end Go.Proofs.YtokebpeplopjhaaDoor.Mp
