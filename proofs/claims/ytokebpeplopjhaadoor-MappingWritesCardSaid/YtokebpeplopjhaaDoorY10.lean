/- Where an entry stands among the document's items, plainly. The document's New: too many entries. Rows that lie off a block. The document's dictionary, walked: right. The document's New. -/
import Derived.Test.YtokebpeplopjhaaDoorY9
import Derived.Deep.RegionHeld3
namespace Go.Proofs.YtokebpeplopjhaaDoor.Mp
open Go.RowKit Go.Shelf Go.Proofs.YtokebpeplopjhaaDoor.Rng Go.Proofs.YtokebpeplopjhaaDoorW.PrintWords Go.Proofs.YtokebpeplopjhaaDoorW.PrintMore Go.Proofs.YtokebpeplopjhaaDoorW.PrintLast

/-- The items stand in order. -/
def Srt (L : List It) : Prop := L.Pairwise fun a b => befC a.ix a.sub b.ix b.sub
theorem befC_trans {a b c d e f : Int} (h : befC a b c d) (g : befC c d e f) : befC a b e f := by
  unfold befC at *
  omega
theorem befC_same {i s j r : Int} (h : ¬ befC i s j r) (g : ¬ befC j r i s) : j = i ∧ r = s := by
  unfold befC at *
  omega
/-- Twice: an item stands at the place. -/
theorem srt_twice {L : List It} {d : DD} {x : En} {y : It} {k : Nat} (hd : RefOf L d) (hy : L[k]? = some y) (h1 : ¬ befC y.ix y.sub x.ix x.sub) (h2 : ¬ befC x.ix x.sub y.ix y.sub) : d.D x.ix x.sub = some y := by
  obtain ⟨e1, e2⟩ := befC_same h1 h2
  have h := hd.it y (List.mem_of_getElem? hy)
  rw [e1, e2]
  exact h
theorem srt_parts {L : List It} {k : Nat} (hs : Srt L) : Srt (L.take k) ∧ Srt (L.drop k) ∧ ∀ a ∈ L.take k, ∀ b ∈ L.drop k, befC a.ix a.sub b.ix b.sub := by
  have h : (L.take k ++ L.drop k).Pairwise fun a b : It => befC a.ix a.sub b.ix b.sub := by rw [List.take_append_drop]; exact hs
  exact List.pairwise_append.1 h
/-- Those behind the place stand behind the entry. -/
theorem srt_behind {L : List It} {x : En} {k : Nat} (hs : Srt L) (hk : ∀ y, L[k]? = some y → befC x.ix x.sub y.ix y.sub) : ∀ b ∈ L.drop k, befC x.ix x.sub b.ix b.sub := by
  have hp := (srt_parts (k := k) hs).2.1
  intro b hb
  cases hL : L.drop k with
  | nil => rw [hL] at hb; cases hb
  | cons y r =>
    have hy : L[k]? = some y := by
      have := List.getElem?_drop (xs := L) (i := k) (j := 0)
      rw [hL] at this
      simpa using this.symm
    rw [hL] at hb hp
    rcases List.mem_cons.1 hb with rfl | hb
    · exact hk _ hy
    · exact befC_trans (hk _ hy) (List.rel_of_pairwise_cons hp hb)
/-- Free: no item stands at the place; and the order is kept. -/
theorem srt_ins {L : List It} {d : DD} {x : En} {k : Nat} (hs : Srt L) (hd : RefOf L d) (hb : ∀ a ∈ L.take k, befC a.ix a.sub x.ix x.sub) (hk : ∀ y, L[k]? = some y → befC x.ix x.sub y.ix y.sub) : d.D x.ix x.sub = none ∧ Srt (L.take k ++ [⟨x, firstC x⟩] ++ L.drop k) := by
  have hh := srt_behind hs hk
  obtain ⟨p1, p2, p3⟩ := srt_parts (k := k) hs
  constructor
  · cases he : d.D x.ix x.sub with
    | none => rfl
    | some y =>
      obtain ⟨hm, e1, e2⟩ := hd.ex _ _ _ he
      have hm2 : y ∈ L.take k ∨ y ∈ L.drop k := by rw [← List.mem_append, List.take_append_drop]; exact hm
      rcases hm2 with hm2 | hm2
      · have := hb y hm2
        unfold befC at this
        omega
      · have := hh y hm2
        unfold befC at this
        omega
  · unfold Srt
    rw [List.append_assoc, List.pairwise_append]
    refine ⟨p1, ?_, ?_⟩
    · rw [List.singleton_append, List.pairwise_cons]
      exact ⟨hh, p2⟩
    · intro a ha b hb2
      rw [List.singleton_append] at hb2
      rcases List.mem_cons.1 hb2 with rfl | hb2
      · exact hb a ha
      · exact p3 a ha b hb2
end Go.Proofs.YtokebpeplopjhaaDoor.Mp
namespace Go.Proofs.YtokebpeplopjhaaDoor.Mp
open Go.RowKit Go.Shelf Go.Proofs.YtokebpeplopjhaaDoor.Rng Go.Proofs.YtokebpeplopjhaaDoorW.PrintWords Go.Proofs.YtokebpeplopjhaaDoorW.PrintMore Go.Proofs.YtokebpeplopjhaaDoorW.PrintLast

/-- A row of items that begins its block. -/
def RowI (w : World) (ad : Addr) : Prop := ad = ⟨ad.block, 0, none⟩ ∧ ∃ cells, w.heap[ad.block]? = some (.cells cells 151 (0, 0))
theorem RowI.below {w w' : World} {ad : Addr} (h : RowI w ad) (hb : Below w.heap.size w w') : RowI w' ad := by
  obtain ⟨h1, cells, h2⟩ := h
  exact ⟨h1, cells, Go.Proofs.YtokebpeplopjhaaDoorW.PrintWords.blk_below h2 hb⟩
/-- The document's dictionary, its blocks named: what an item names lies off them. -/
def RefB (B : Nat) (w : World) (g : Nat) (L : List It) (N : Int) : Prop := ∃ A c cs, B ≤ g ∧ w.heap[g]? = some (.cells #[.slice A L.length c, .int .i64 N] 149 (0, 0)) ∧ kI.C w A L.length cs ∧ L.length ≤ 1024 ∧ L.length ≤ c ∧ ItsP (ArgN g w) L cs ∧ ∀ ad, A = some ad → B ≤ ad.block ∧ ad.block ≠ g ∧ RowI w ad ∧ ItsP (ArgN ad.block w) L cs
/-- What the document's New tells. -/
def RNewSaid (w : World) (r : Int × Option DD) (e : Ending) (w' : World) : Prop := Below w.heap.size w w' ∧ match r.2 with
  | none => e = .returned (.tuple #[.pointer none, .int .i64 r.1])
  | some d => ∃ g L, e = .returned (.tuple #[.pointer (some ⟨g, 0, none⟩), .int .i64 r.1]) ∧ RefB w.heap.size w' g L 0 ∧ RefOf L d ∧ Srt L
theorem rnew_long (n c : Nat) (A : Option Addr) (w : World) (h : 1024 < n) : Calls Tryd.prog 82 #[.slice A n c] w (RNewSaid w (3, none)) := by
  have hi : (1024 : Int) < (n : Int) := by omega
  go_enter Tryd.func82, Tryd.ntmps82
  go_wp2
  go_ret2
  exact ⟨Below.refl _ _, rfl⟩
end Go.Proofs.YtokebpeplopjhaaDoor.Mp
namespace Go.Proofs.YtokebpeplopjhaaDoor.Mp
open Go.RowKit Go.Shelf Go.Proofs.YtokebpeplopjhaaDoor.Rng Go.Proofs.YtokebpeplopjhaaDoorW.PrintWords Go.Proofs.YtokebpeplopjhaaDoorW.PrintMore Go.Proofs.YtokebpeplopjhaaDoorW.PrintLast

theorem ArgN.argv {g : Nat} {w : World} {v : Value} {l : List Int} (h : ArgN g w v l) : ArgV w v l := by
  obtain ⟨A, c, e, q1, q2, _⟩ := h
  exact ⟨A, c, e, q1, q2⟩
theorem ArgN.below {g : Nat} {w w' : World} {v : Value} {l : List Int} (h : ArgN g w v l) (hb : Below w.heap.size w w') : ArgN g w' v l := by
  obtain ⟨A, c, e, q1, q2, ho⟩ := h
  exact ⟨A, c, e, q1.below hb, q2, ho⟩
theorem ArgN.set {g : Nat} {w w' : World} {v : Value} {l : List Int} (h : ArgN g w v l) (hf : Fr (fun k => k = g) w w') : ArgN g w' v l := by
  obtain ⟨A, c, e, q1, q2, ho⟩ := h
  exact ⟨A, c, e, ⟨q1.rd.fr hf ho, q1.byt, q1.le, q1.cap⟩, q2, ho⟩
theorem ArgV.toN {g : Nat} {w : World} {v : Value} {l : List Int} (h : ArgV w v l) (hg : w.heap.size ≤ g) : ArgN g w v l := by
  obtain ⟨A, c, e, q1, q2⟩ := h
  refine ⟨A, c, e, q1, q2, fun ad hA hn hk => ?_⟩
  obtain ⟨ad', hA', hc⟩ := q1.rd.2 hn
  rw [hA] at hA'
  injection hA' with hA'
  subst hA'
  have h0 := World.block_lt_of_cell? w _ (hc 0 hn)
  rw [show (ad.add 0).block = ad.block by unfold Addr.add; rw [if_pos rfl]] at h0
  have : ad.block = g := hk
  omega
theorem RefB.at_ {B : Nat} {w : World} {g : Nat} {L : List It} {N : Int} (h : RefB B w g L N) : RefAt w g L N := by
  obtain ⟨A, c, cs, -, h1, h2, h3, h4, h5, -⟩ := h
  exact ⟨A, c, h1, its_of_C h2 (h5.imp fun _ _ h => h.argv), h3, h4⟩
theorem RefB.below {B : Nat} {w w' : World} {g : Nat} {L : List It} {N : Int} (h : RefB B w g L N) (hb : Below w.heap.size w w') : RefB B w' g L N := by
  obtain ⟨A, c, cs, h0, h1, h2, h3, h4, h5, h6⟩ := h
  refine ⟨A, c, cs, h0, Go.Proofs.YtokebpeplopjhaaDoorW.PrintWords.blk_below h1 hb, Kd.C_below h2 hb, h3, h4, h5.imp fun _ _ h => h.below hb, fun ad e => ?_⟩
  obtain ⟨q1, q2, q4, q3⟩ := h6 ad e
  exact ⟨q1, q2, q4.below hb, q3.imp fun _ _ h => h.below hb⟩
end Go.Proofs.YtokebpeplopjhaaDoor.Mp
namespace Go.Proofs.YtokebpeplopjhaaDoor.Mp
open Go.RowKit Go.Shelf Go.Proofs.YtokebpeplopjhaaDoor.Rng Go.Proofs.YtokebpeplopjhaaDoorW.PrintWords Go.Proofs.YtokebpeplopjhaaDoorW.PrintMore Go.Proofs.YtokebpeplopjhaaDoorW.PrintLast

set_option maxRecDepth 100000 in
set_option maxHeartbeats 4000000 in
theorem rmay_any (x : En) (v : Value) (w : World) (h : EnV w v x) : Calls Tryd.prog 118 #[v] w fun e w' => e = .returned (.bool (decide (mayC chkC x))) ∧ Below w.heap.size w w' := by
  obtain ⟨v1, v2, v3, rfl, ⟨A1, a1, rfl, h1⟩, ⟨A2, a2, rfl, h2⟩, ⟨A3, a3, rfl, h3⟩⟩ := h
  have hb0 : Below w.heap.size w (w.alloc (.cells #[.int .u16 x.ix, .int .u8 x.sub, .string x.name, .int .u8 x.ty, .int .u8 x.rt, .slice A1 x.df.length a1, .slice A2 x.lo.length a2, .slice A3 x.hi.length a3, .int .u8 x.tag, .int .u8 x.grp] 121)) := below_alloc (Below.refl _ _) _
  have hrow0 := blk_new w (.cells #[.int .u16 x.ix, .int .u8 x.sub, .string x.name, .int .u8 x.ty, .int .u8 x.rt, .slice A1 x.df.length a1, .slice A2 x.lo.length a2, .slice A3 x.hi.length a3, .int .u8 x.tag, .int .u8 x.grp] 121)
  obtain ⟨W0, hW0⟩ : ∃ W0, w.alloc (.cells #[.int .u16 x.ix, .int .u8 x.sub, .string x.name, .int .u8 x.ty, .int .u8 x.rt, .slice A1 x.df.length a1, .slice A2 x.lo.length a2, .slice A3 x.hi.length a3, .int .u8 x.tag, .int .u8 x.grp] 121) = W0 := ⟨_, rfl⟩
  rw [hW0] at hb0 hrow0
  have K := Aside0.mk fun X (hX : Below W0.heap.size W0 X) => held10 (blk_below hrow0 hX)
  have HE := Aside0.mk fun X (hX : Below W0.heap.size W0 X) => (show EnV X (.agg #[.int .u16 x.ix, .int .u8 x.sub, .string x.name, .int .u8 x.ty, .int .u8 x.rt, .slice A1 x.df.length a1, .slice A2 x.lo.length a2, .slice A3 x.hi.length a3, .int .u8 x.tag, .int .u8 x.grp]) x from EnV.below (w := w) ⟨_, _, _, rfl, ⟨_, _, rfl, h1⟩, ⟨_, _, rfl, h2⟩, ⟨_, _, rfl, h3⟩⟩ (hb0.trans (hX.mono hb0.size)))
  have H2 := Aside0.mk (h2.1.below hb0)
  have H3 := Aside0.mk (h3.1.below hb0)
  have HRI := Aside0.mk (rright_any x.ty W0)
  have hf := byt_first (e := x) h1.1.byt
  have HCL := Aside0.mk fun X (hX : Below W0.heap.size W0 X) => (show Calls Tryd.prog 125 #[.int .u8 x.ty, .slice A2 x.lo.length a2, .slice none 0 0, .slice none 0 0] X (ChkSaidR X (chkC x.ty x.lo [] [])) from chk_R x.ty h2.1.byt (arg_nil X).byt (arg_nil X).byt ▸ rcheck_any x.ty A2 a2 x.lo none 0 [] none 0 [] X (H2.out.below hX) (arg_nil X) (arg_nil X))
  have HCH := Aside0.mk fun X (hX : Below W0.heap.size W0 X) => (show Calls Tryd.prog 125 #[.int .u8 x.ty, .slice A3 x.hi.length a3, .slice none 0 0, .slice none 0 0] X (ChkSaidR X (chkC x.ty x.hi [] [])) from chk_R x.ty h3.1.byt (arg_nil X).byt (arg_nil X).byt ▸ rcheck_any x.ty A3 a3 x.hi none 0 [] none 0 [] X (H3.out.below hX) (arg_nil X) (arg_nil X))
  have HCF := Aside0.mk fun X (hX : Below W0.heap.size W0 X) (A4 : Option Addr) (a4 : Nat) (h4 : Arg X A4 a4 (firstC x)) => (show Calls Tryd.prog 125 #[.int .u8 x.ty, .slice A4 (firstC x).length a4, .slice A2 x.lo.length a2, .slice A3 x.hi.length a3] X (ChkSaidR X (chkC x.ty (firstC x) x.lo x.hi)) from chk_R x.ty hf h2.1.byt h3.1.byt ▸ rcheck_any x.ty A4 a4 (firstC x) A2 a2 x.lo A3 a3 x.hi X h4 (H2.out.below hX) (H3.out.below hX))
  have HB := Aside0.mk (Below.refl W0.heap.size W0)
  have HB0 := Aside0.mk hb0
  obtain ⟨c0, c1, c2, c3, c4, c5, c6, c7, c8, c9, -⟩ := K.out W0 HB.out

  clear h1 h2 h3 hb0 hrow0 hf
  by_cases hk : knd x.ty = 0
  · rw [show decide (knd x.ty ≠ 0) = false by simp [hk]] at HRI
    rw [decide_eq_false (show ¬ mayC chkC x from fun k => k.1 hk)]
    have GL := Aside0.mk True.intro
    go_enter Tryd.func118, Tryd.ntmps118
    go_wp2_with (first
      | (go_at_call 139; refine HRI.out.mono ?_; rintro e w1 ⟨rfl, hw⟩; have hw := hw.symm; subst hw))
    go_ret
    exact ⟨rfl, HB0.out.trans (HB.out.mono HB0.out.size)⟩
  rw [show decide (knd x.ty ≠ 0) = true by simp [hk]] at HRI
  by_cases hr : 15 < x.rt
  · have q2 := decide_eq_true hr
    rw [decide_eq_false (show ¬ mayC chkC x from fun k => by have := k.2.1; omega)]
    have GL := Aside0.mk True.intro
    go_enter Tryd.func118, Tryd.ntmps118
    go_wp2_with (first
      | (go_at_call 139; refine HRI.out.mono ?_; rintro e w1 ⟨rfl, hw⟩; have hw := hw.symm; subst hw))
    go_ret
    exact ⟨rfl, HB0.out.trans (HB.out.mono HB0.out.size)⟩
  have q2 := decide_eq_false hr
  by_cases hg : 16 < x.grp
  · have q3 := decide_eq_true hg
    rw [decide_eq_false (show ¬ mayC chkC x from fun k => by have := k.2.2.1; omega)]
    have GL := Aside0.mk True.intro
    go_enter Tryd.func118, Tryd.ntmps118
    go_wp2_with (first
      | (go_at_call 139; refine HRI.out.mono ?_; rintro e w1 ⟨rfl, hw⟩; have hw := hw.symm; subst hw))
    go_ret
    exact ⟨rfl, HB0.out.trans (HB.out.mono HB0.out.size)⟩
  have q3 := decide_eq_false hg
  by_cases hn : (100 : Int) < (x.name.size : Int)
  · have q4 := decide_eq_true hn
    rw [decide_eq_false (show ¬ mayC chkC x from fun k => by have := k.2.2.2.1; omega)]
    have GL := Aside0.mk True.intro
    go_enter Tryd.func118, Tryd.ntmps118
    go_wp2_with (first
      | (go_at_call 139; refine HRI.out.mono ?_; rintro e w1 ⟨rfl, hw⟩; have hw := hw.symm; subst hw))
    go_ret
    exact ⟨rfl, HB0.out.trans (HB.out.mono HB0.out.size)⟩
  have q4 := decide_eq_false hn
  obtain ⟨ql, hql⟩ : ∃ q, chkC x.ty x.lo [] [] = q := ⟨_, rfl⟩
  obtain ⟨qh, hqh⟩ : ∃ q, chkC x.ty x.hi [] [] = q := ⟨_, rfl⟩
  rw [hql] at HCL
  rw [hqh] at HCH
  have e0 : ∀ l : List Int, l = [] ↔ ¬ (0 : Int) < (l.length : Int) := fun l => by
    cases l
    · simp
    · simp
  by_cases hlo : (0 : Int) < (x.lo.length : Int)
  case pos =>
    have dl := decide_eq_true hlo
    by_cases hq : ql = 0
    case neg =>
      have gq : (ql != 0) = true := by simpa using hq
      rw [decide_eq_false (show ¬ mayC chkC x from fun k => by rcases k.2.2.2.2.1 with k | k; exact (e0 _).1 k hlo; exact hq (hql ▸ k))]
      have GL := Aside0.mk True.intro
      go_enter Tryd.func118, Tryd.ntmps118
      go_wp2_with (first
        | (go_at_call 139; refine HRI.out.mono ?_; rintro e w1 ⟨rfl, hw⟩; have hw := hw.symm; subst hw)
        | (have hgate := GL.out; clear hgate; go_at_call 125; (with_reducible refine (HCL.out _ HB.out).mono ?_); rintro e w2 ⟨rfl, hb⟩; replace HB := Aside0.mk (HB.out.trans (hb.mono HB.out.size)); obtain ⟨d0, d1, d2, d3, d4, d5, d6, d7, d8, d9, -⟩ := K.out _ HB.out; clear hb GL))
      go_ret
      exact ⟨rfl, HB0.out.trans (HB.out.mono HB0.out.size)⟩
    subst hq
    by_cases hhi : (0 : Int) < (x.hi.length : Int)
    case pos =>
      have dh := decide_eq_true hhi
      by_cases hq2 : qh = 0
      case neg =>
        have gq2 : (qh != 0) = true := by simpa using hq2
        rw [decide_eq_false (show ¬ mayC chkC x from fun k => by rcases k.2.2.2.2.2.1 with k | k; exact (e0 _).1 k hhi; exact hq2 (hqh ▸ k))]
        have GL := Aside0.mk True.intro
        go_enter Tryd.func118, Tryd.ntmps118
        go_wp2_with (first
          | (go_at_call 139; refine HRI.out.mono ?_; rintro e w1 ⟨rfl, hw⟩; have hw := hw.symm; subst hw)
          | (have hgate := GL.out; clear hgate; go_at_call 125; (with_reducible refine (HCL.out _ HB.out).mono ?_); rintro e w2 ⟨rfl, hb⟩; replace HB := Aside0.mk (HB.out.trans (hb.mono HB.out.size)); obtain ⟨d0, d1, d2, d3, d4, d5, d6, d7, d8, d9, -⟩ := K.out _ HB.out; clear hb GL)
          | (go_at_call 125; (with_reducible refine (HCH.out _ HB.out).mono ?_); rintro e w3 ⟨rfl, hb⟩; replace HB := Aside0.mk (HB.out.trans (hb.mono HB.out.size)); obtain ⟨e0, e1, e2, e3, e4, e5, e6, e7, e8, e9, -⟩ := K.out _ HB.out; clear hb))
        go_ret
        exact ⟨rfl, HB0.out.trans (HB.out.mono HB0.out.size)⟩
      subst hq2
      have hm : decide (mayC chkC x) = (chkC x.ty (firstC x) x.lo x.hi == 0) := by
        by_cases k : chkC x.ty (firstC x) x.lo x.hi = 0
        · rw [k, decide_eq_true (show mayC chkC x from ⟨hk, by omega, by omega, by omega, .inr hql, .inr hqh, k⟩)]
          rfl
        · rw [decide_eq_false (show ¬ mayC chkC x from fun m => k m.2.2.2.2.2.2)]
          exact (beq_eq_false_iff_ne.2 k).symm
      rw [hm]
      generalize chkC x.ty (firstC x) x.lo x.hi = qf at HCF ⊢
      clear hm hql hqh e0
      have GL := Aside0.mk True.intro
      go_enter Tryd.func118, Tryd.ntmps118
      go_wp2_with (first
        | (go_at_call 139; refine HRI.out.mono ?_; rintro e w1 ⟨rfl, hw⟩; have hw := hw.symm; subst hw)
        | (have hgate := GL.out; clear hgate; go_at_call 125; (with_reducible refine (HCL.out _ HB.out).mono ?_); rintro e w2 ⟨rfl, hb⟩; replace HB := Aside0.mk (HB.out.trans (hb.mono HB.out.size)); obtain ⟨d0, d1, d2, d3, d4, d5, d6, d7, d8, d9, -⟩ := K.out _ HB.out; clear hb GL)
        | (go_at_call 125; (with_reducible refine (HCH.out _ HB.out).mono ?_); rintro e w3 ⟨rfl, hb⟩; replace HB := Aside0.mk (HB.out.trans (hb.mono HB.out.size)); obtain ⟨e0, e1, e2, e3, e4, e5, e6, e7, e8, e9, -⟩ := K.out _ HB.out; clear hb))
      have hS0 : Below W0.heap.size W0 _ := HB.out
      have z0 : ∀ X, Below W0.heap.size W0 X → X.cell? ⟨w.heap.size, 0, none⟩ = _ := fun X hX => (K.out X hX).1
      have z1 : ∀ X, Below W0.heap.size W0 X → X.cell? ⟨w.heap.size, 1, none⟩ = _ := fun X hX => (K.out X hX).2.1
      have z2 : ∀ X, Below W0.heap.size W0 X → X.cell? ⟨w.heap.size, 2, none⟩ = _ := fun X hX => (K.out X hX).2.2.1
      have z3 : ∀ X, Below W0.heap.size W0 X → X.cell? ⟨w.heap.size, 3, none⟩ = _ := fun X hX => (K.out X hX).2.2.2.1
      have z4 : ∀ X, Below W0.heap.size W0 X → X.cell? ⟨w.heap.size, 4, none⟩ = _ := fun X hX => (K.out X hX).2.2.2.2.1
      have z5 : ∀ X, Below W0.heap.size W0 X → X.cell? ⟨w.heap.size, 5, none⟩ = _ := fun X hX => (K.out X hX).2.2.2.2.2.1
      have z6 : ∀ X, Below W0.heap.size W0 X → X.cell? ⟨w.heap.size, 6, none⟩ = _ := fun X hX => (K.out X hX).2.2.2.2.2.2.1
      have z7 : ∀ X, Below W0.heap.size W0 X → X.cell? ⟨w.heap.size, 7, none⟩ = _ := fun X hX => (K.out X hX).2.2.2.2.2.2.2.1
      have z8 : ∀ X, Below W0.heap.size W0 X → X.cell? ⟨w.heap.size, 8, none⟩ = _ := fun X hX => (K.out X hX).2.2.2.2.2.2.2.2.1
      have z9 : ∀ X, Below W0.heap.size W0 X → X.cell? ⟨w.heap.size, 9, none⟩ = _ := fun X hX => (K.out X hX).2.2.2.2.2.2.2.2.2.1
      obtain ⟨nf, hnf⟩ : ∃ nf, (firstC x).length = nf := ⟨_, rfl⟩
      have HNF := Aside0.mk hnf
      rw [hnf] at HCF
      clear hnf
      go_region_held3 (fun X => Below W0.heap.size W0 X) (first | assumption | exact below_step (by assumption) (by assumption) | exact below_drew (by assumption))
        (first
          | (go_at_call 120; refine (rfirst_any x _ _ (HE.out _ (by assumption))).mono ?_; rintro e wf ⟨vf, rfl, ⟨A4, a4, rfl, ha4, -⟩, -, hbf⟩; rw [HNF.out]; have HA4 := Aside0.mk ha4; have hSf : Below W0.heap.size W0 wf := below_step (by assumption) hbf; clear ha4)
          | (go_at_call 125; (with_reducible refine (HCF.out _ (by assumption) A4 a4 HA4.out).mono ?_); rintro e wg ⟨rfl, hbg⟩; have hSg : Below W0.heap.size W0 wg := below_step (by assumption) hbg))
      go_wp2
      go_ret
      exact ⟨rfl, HB0.out.trans ((by assumption : Below W0.heap.size W0 _).mono HB0.out.size)⟩
    case neg =>
      have dh := decide_eq_false hhi
      have hm : decide (mayC chkC x) = (chkC x.ty (firstC x) x.lo x.hi == 0) := by
        by_cases k : chkC x.ty (firstC x) x.lo x.hi = 0
        · rw [k, decide_eq_true (show mayC chkC x from ⟨hk, by omega, by omega, by omega, .inr hql, .inl ((e0 _).2 hhi), k⟩)]
          rfl
        · rw [decide_eq_false (show ¬ mayC chkC x from fun m => k m.2.2.2.2.2.2)]
          exact (beq_eq_false_iff_ne.2 k).symm
      rw [hm]
      generalize chkC x.ty (firstC x) x.lo x.hi = qf at HCF ⊢
      clear hm hql hqh e0
      have GL := Aside0.mk True.intro
      go_enter Tryd.func118, Tryd.ntmps118
      go_wp2_with (first
        | (go_at_call 139; refine HRI.out.mono ?_; rintro e w1 ⟨rfl, hw⟩; have hw := hw.symm; subst hw)
        | (have hgate := GL.out; clear hgate; go_at_call 125; (with_reducible refine (HCL.out _ HB.out).mono ?_); rintro e w2 ⟨rfl, hb⟩; replace HB := Aside0.mk (HB.out.trans (hb.mono HB.out.size)); obtain ⟨d0, d1, d2, d3, d4, d5, d6, d7, d8, d9, -⟩ := K.out _ HB.out; clear hb GL))
      have hS0 : Below W0.heap.size W0 _ := HB.out
      have z0 : ∀ X, Below W0.heap.size W0 X → X.cell? ⟨w.heap.size, 0, none⟩ = _ := fun X hX => (K.out X hX).1
      have z1 : ∀ X, Below W0.heap.size W0 X → X.cell? ⟨w.heap.size, 1, none⟩ = _ := fun X hX => (K.out X hX).2.1
      have z2 : ∀ X, Below W0.heap.size W0 X → X.cell? ⟨w.heap.size, 2, none⟩ = _ := fun X hX => (K.out X hX).2.2.1
      have z3 : ∀ X, Below W0.heap.size W0 X → X.cell? ⟨w.heap.size, 3, none⟩ = _ := fun X hX => (K.out X hX).2.2.2.1
      have z4 : ∀ X, Below W0.heap.size W0 X → X.cell? ⟨w.heap.size, 4, none⟩ = _ := fun X hX => (K.out X hX).2.2.2.2.1
      have z5 : ∀ X, Below W0.heap.size W0 X → X.cell? ⟨w.heap.size, 5, none⟩ = _ := fun X hX => (K.out X hX).2.2.2.2.2.1
      have z6 : ∀ X, Below W0.heap.size W0 X → X.cell? ⟨w.heap.size, 6, none⟩ = _ := fun X hX => (K.out X hX).2.2.2.2.2.2.1
      have z7 : ∀ X, Below W0.heap.size W0 X → X.cell? ⟨w.heap.size, 7, none⟩ = _ := fun X hX => (K.out X hX).2.2.2.2.2.2.2.1
      have z8 : ∀ X, Below W0.heap.size W0 X → X.cell? ⟨w.heap.size, 8, none⟩ = _ := fun X hX => (K.out X hX).2.2.2.2.2.2.2.2.1
      have z9 : ∀ X, Below W0.heap.size W0 X → X.cell? ⟨w.heap.size, 9, none⟩ = _ := fun X hX => (K.out X hX).2.2.2.2.2.2.2.2.2.1
      obtain ⟨nf, hnf⟩ : ∃ nf, (firstC x).length = nf := ⟨_, rfl⟩
      have HNF := Aside0.mk hnf
      rw [hnf] at HCF
      clear hnf
      go_region_held3 (fun X => Below W0.heap.size W0 X) (first | assumption | exact below_step (by assumption) (by assumption) | exact below_drew (by assumption))
        (first
          | (go_at_call 120; refine (rfirst_any x _ _ (HE.out _ (by assumption))).mono ?_; rintro e wf ⟨vf, rfl, ⟨A4, a4, rfl, ha4, -⟩, -, hbf⟩; rw [HNF.out]; have HA4 := Aside0.mk ha4; have hSf : Below W0.heap.size W0 wf := below_step (by assumption) hbf; clear ha4)
          | (go_at_call 125; (with_reducible refine (HCF.out _ (by assumption) A4 a4 HA4.out).mono ?_); rintro e wg ⟨rfl, hbg⟩; have hSg : Below W0.heap.size W0 wg := below_step (by assumption) hbg))
      go_wp2
      go_ret
      exact ⟨rfl, HB0.out.trans ((by assumption : Below W0.heap.size W0 _).mono HB0.out.size)⟩
  case neg =>
    have dl := decide_eq_false hlo
    by_cases hhi : (0 : Int) < (x.hi.length : Int)
    case pos =>
      have dh := decide_eq_true hhi
      by_cases hq2 : qh = 0
      case neg =>
        have gq2 : (qh != 0) = true := by simpa using hq2
        rw [decide_eq_false (show ¬ mayC chkC x from fun k => by rcases k.2.2.2.2.2.1 with k | k; exact (e0 _).1 k hhi; exact hq2 (hqh ▸ k))]
        have GL := Aside0.mk True.intro
        go_enter Tryd.func118, Tryd.ntmps118
        go_wp2_with (first
          | (go_at_call 139; refine HRI.out.mono ?_; rintro e w1 ⟨rfl, hw⟩; have hw := hw.symm; subst hw)
          | (go_at_call 125; (with_reducible refine (HCH.out _ HB.out).mono ?_); rintro e w3 ⟨rfl, hb⟩; replace HB := Aside0.mk (HB.out.trans (hb.mono HB.out.size)); obtain ⟨e0, e1, e2, e3, e4, e5, e6, e7, e8, e9, -⟩ := K.out _ HB.out; clear hb))
        go_ret
        exact ⟨rfl, HB0.out.trans (HB.out.mono HB0.out.size)⟩
      subst hq2
      have hm : decide (mayC chkC x) = (chkC x.ty (firstC x) x.lo x.hi == 0) := by
        by_cases k : chkC x.ty (firstC x) x.lo x.hi = 0
        · rw [k, decide_eq_true (show mayC chkC x from ⟨hk, by omega, by omega, by omega, .inl ((e0 _).2 hlo), .inr hqh, k⟩)]
          rfl
        · rw [decide_eq_false (show ¬ mayC chkC x from fun m => k m.2.2.2.2.2.2)]
          exact (beq_eq_false_iff_ne.2 k).symm
      rw [hm]
      generalize chkC x.ty (firstC x) x.lo x.hi = qf at HCF ⊢
      clear hm hql hqh e0
      have GL := Aside0.mk True.intro
      go_enter Tryd.func118, Tryd.ntmps118
      go_wp2_with (first
        | (go_at_call 139; refine HRI.out.mono ?_; rintro e w1 ⟨rfl, hw⟩; have hw := hw.symm; subst hw)
        | (go_at_call 125; (with_reducible refine (HCH.out _ HB.out).mono ?_); rintro e w3 ⟨rfl, hb⟩; replace HB := Aside0.mk (HB.out.trans (hb.mono HB.out.size)); obtain ⟨e0, e1, e2, e3, e4, e5, e6, e7, e8, e9, -⟩ := K.out _ HB.out; clear hb))
      have hS0 : Below W0.heap.size W0 _ := HB.out
      have z0 : ∀ X, Below W0.heap.size W0 X → X.cell? ⟨w.heap.size, 0, none⟩ = _ := fun X hX => (K.out X hX).1
      have z1 : ∀ X, Below W0.heap.size W0 X → X.cell? ⟨w.heap.size, 1, none⟩ = _ := fun X hX => (K.out X hX).2.1
      have z2 : ∀ X, Below W0.heap.size W0 X → X.cell? ⟨w.heap.size, 2, none⟩ = _ := fun X hX => (K.out X hX).2.2.1
      have z3 : ∀ X, Below W0.heap.size W0 X → X.cell? ⟨w.heap.size, 3, none⟩ = _ := fun X hX => (K.out X hX).2.2.2.1
      have z4 : ∀ X, Below W0.heap.size W0 X → X.cell? ⟨w.heap.size, 4, none⟩ = _ := fun X hX => (K.out X hX).2.2.2.2.1
      have z5 : ∀ X, Below W0.heap.size W0 X → X.cell? ⟨w.heap.size, 5, none⟩ = _ := fun X hX => (K.out X hX).2.2.2.2.2.1
      have z6 : ∀ X, Below W0.heap.size W0 X → X.cell? ⟨w.heap.size, 6, none⟩ = _ := fun X hX => (K.out X hX).2.2.2.2.2.2.1
      have z7 : ∀ X, Below W0.heap.size W0 X → X.cell? ⟨w.heap.size, 7, none⟩ = _ := fun X hX => (K.out X hX).2.2.2.2.2.2.2.1
      have z8 : ∀ X, Below W0.heap.size W0 X → X.cell? ⟨w.heap.size, 8, none⟩ = _ := fun X hX => (K.out X hX).2.2.2.2.2.2.2.2.1
      have z9 : ∀ X, Below W0.heap.size W0 X → X.cell? ⟨w.heap.size, 9, none⟩ = _ := fun X hX => (K.out X hX).2.2.2.2.2.2.2.2.2.1
      obtain ⟨nf, hnf⟩ : ∃ nf, (firstC x).length = nf := ⟨_, rfl⟩
      have HNF := Aside0.mk hnf
      rw [hnf] at HCF
      clear hnf
      go_region_held3 (fun X => Below W0.heap.size W0 X) (first | assumption | exact below_step (by assumption) (by assumption) | exact below_drew (by assumption))
        (first
          | (go_at_call 120; refine (rfirst_any x _ _ (HE.out _ (by assumption))).mono ?_; rintro e wf ⟨vf, rfl, ⟨A4, a4, rfl, ha4, -⟩, -, hbf⟩; rw [HNF.out]; have HA4 := Aside0.mk ha4; have hSf : Below W0.heap.size W0 wf := below_step (by assumption) hbf; clear ha4)
          | (go_at_call 125; (with_reducible refine (HCF.out _ (by assumption) A4 a4 HA4.out).mono ?_); rintro e wg ⟨rfl, hbg⟩; have hSg : Below W0.heap.size W0 wg := below_step (by assumption) hbg))
      go_wp2
      go_ret
      exact ⟨rfl, HB0.out.trans ((by assumption : Below W0.heap.size W0 _).mono HB0.out.size)⟩
    case neg =>
      have dh := decide_eq_false hhi
      have hm : decide (mayC chkC x) = (chkC x.ty (firstC x) x.lo x.hi == 0) := by
        by_cases k : chkC x.ty (firstC x) x.lo x.hi = 0
        · rw [k, decide_eq_true (show mayC chkC x from ⟨hk, by omega, by omega, by omega, .inl ((e0 _).2 hlo), .inl ((e0 _).2 hhi), k⟩)]
          rfl
        · rw [decide_eq_false (show ¬ mayC chkC x from fun m => k m.2.2.2.2.2.2)]
          exact (beq_eq_false_iff_ne.2 k).symm
      rw [hm]
      generalize chkC x.ty (firstC x) x.lo x.hi = qf at HCF ⊢
      clear hm hql hqh e0
      have GL := Aside0.mk True.intro
      go_enter Tryd.func118, Tryd.ntmps118
      go_wp2_with (first
        | (go_at_call 139; refine HRI.out.mono ?_; rintro e w1 ⟨rfl, hw⟩; have hw := hw.symm; subst hw))
      have hS0 : Below W0.heap.size W0 _ := HB.out
      have z0 : ∀ X, Below W0.heap.size W0 X → X.cell? ⟨w.heap.size, 0, none⟩ = _ := fun X hX => (K.out X hX).1
      have z1 : ∀ X, Below W0.heap.size W0 X → X.cell? ⟨w.heap.size, 1, none⟩ = _ := fun X hX => (K.out X hX).2.1
      have z2 : ∀ X, Below W0.heap.size W0 X → X.cell? ⟨w.heap.size, 2, none⟩ = _ := fun X hX => (K.out X hX).2.2.1
      have z3 : ∀ X, Below W0.heap.size W0 X → X.cell? ⟨w.heap.size, 3, none⟩ = _ := fun X hX => (K.out X hX).2.2.2.1
      have z4 : ∀ X, Below W0.heap.size W0 X → X.cell? ⟨w.heap.size, 4, none⟩ = _ := fun X hX => (K.out X hX).2.2.2.2.1
      have z5 : ∀ X, Below W0.heap.size W0 X → X.cell? ⟨w.heap.size, 5, none⟩ = _ := fun X hX => (K.out X hX).2.2.2.2.2.1
      have z6 : ∀ X, Below W0.heap.size W0 X → X.cell? ⟨w.heap.size, 6, none⟩ = _ := fun X hX => (K.out X hX).2.2.2.2.2.2.1
      have z7 : ∀ X, Below W0.heap.size W0 X → X.cell? ⟨w.heap.size, 7, none⟩ = _ := fun X hX => (K.out X hX).2.2.2.2.2.2.2.1
      have z8 : ∀ X, Below W0.heap.size W0 X → X.cell? ⟨w.heap.size, 8, none⟩ = _ := fun X hX => (K.out X hX).2.2.2.2.2.2.2.2.1
      have z9 : ∀ X, Below W0.heap.size W0 X → X.cell? ⟨w.heap.size, 9, none⟩ = _ := fun X hX => (K.out X hX).2.2.2.2.2.2.2.2.2.1
      obtain ⟨nf, hnf⟩ : ∃ nf, (firstC x).length = nf := ⟨_, rfl⟩
      have HNF := Aside0.mk hnf
      rw [hnf] at HCF
      clear hnf
      go_region_held3 (fun X => Below W0.heap.size W0 X) (first | assumption | exact below_step (by assumption) (by assumption) | exact below_drew (by assumption))
        (first
          | (go_at_call 120; refine (rfirst_any x _ _ (HE.out _ (by assumption))).mono ?_; rintro e wf ⟨vf, rfl, ⟨A4, a4, rfl, ha4, -⟩, -, hbf⟩; rw [HNF.out]; have HA4 := Aside0.mk ha4; have hSf : Below W0.heap.size W0 wf := below_step (by assumption) hbf; clear ha4)
          | (go_at_call 125; (with_reducible refine (HCF.out _ (by assumption) A4 a4 HA4.out).mono ?_); rintro e wg ⟨rfl, hbg⟩; have hSg : Below W0.heap.size W0 wg := below_step (by assumption) hbg))
      go_wp2
      go_ret
      exact ⟨rfl, HB0.out.trans ((by assumption : Below W0.heap.size W0 _).mono HB0.out.size)⟩
end Go.Proofs.YtokebpeplopjhaaDoor.Mp
namespace Go.Proofs.YtokebpeplopjhaaDoor.Mp
open Go.RowKit Go.Shelf Go.Proofs.YtokebpeplopjhaaDoor.Rng Go.Proofs.YtokebpeplopjhaaDoorW.PrintWords Go.Proofs.YtokebpeplopjhaaDoorW.PrintMore Go.Proofs.YtokebpeplopjhaaDoorW.PrintLast

/-- A row of a block that is none of these. -/
theorem argn_at {g : Nat} {w : World} {v : Value} {l : List Int} (h : ArgV w v l) (ho : ∀ k, v.ownBlock = some k → k < w.heap.size → k ≠ g) : ArgN g w v l := by
  obtain ⟨A, c, e, q1, q2⟩ := h
  refine ⟨A, c, e, q1, q2, fun ad hA hn hk => ?_⟩
  subst e
  obtain ⟨ad', hA', hc⟩ := q1.rd.2 hn
  have h0 := World.block_lt_of_cell? w _ (hc 0 hn)
  rw [show (ad'.add 0).block = ad'.block by unfold Addr.add; rw [if_pos rfl]] at h0
  rw [hA'] at hA ho
  injection hA with hA
  subst hA
  exact ho _ rfl h0 hk
theorem ArgN.fr {g : Nat} {M : Nat → Prop} {w W : World} {v : Value} {l : List Int} (h : ArgN g w v l) (hf : Fr M w W) (ho : ∀ k, v.ownBlock = some k → k < w.heap.size → ¬ M k) : ArgN g W v l := by
  obtain ⟨A, c, e, q1, q2, q3⟩ := h
  subst e
  refine ⟨A, c, rfl, ⟨q1.rd.fr hf fun ad hA hn hk => ?_, q1.byt, q1.le, q1.cap⟩, q2, q3⟩
  obtain ⟨ad', hA', hc⟩ := q1.rd.2 hn
  have h0 := World.block_lt_of_cell? w _ (hc 0 hn)
  rw [show (ad'.add 0).block = ad'.block by unfold Addr.add; rw [if_pos rfl]] at h0
  rw [hA'] at hA ho
  injection hA with hA
  subst hA
  exact ho _ rfl h0 hk
/-- Off two blocks, one of which is written. -/
theorem ArgN.two {g h : Nat} {w w' : World} {v : Value} {l : List Int} (a : ArgN h w v l) (b : ArgN g w v l) (hf : Fr (fun k => k = g) w w') : ArgN h w' v l := by
  obtain ⟨A, c, e, q1, q2, q3⟩ := a
  obtain ⟨A', c', e', q1', q2', q3'⟩ := b
  subst e
  injection e' with e1 e2 e3
  subst e1 e3
  exact ⟨A, c, rfl, ⟨q1.rd.fr hf q3', q1.byt, q1.le, q1.cap⟩, q2, q3⟩
theorem kI_fr {M : Nat → Prop} {w W : World} {ad : Addr} {n : Nat} {cs : List (List Value)} (h : kI.C w (some ad) n cs) (hf : Fr M w W) (hM : ¬ M ad.block) : kI.C W (some ad) n cs :=
  ⟨h.1, h.2.1, fun h0 => by
    obtain ⟨ad', e, hc⟩ := h.2.2 h0
    refine ⟨ad', e, fun j x hj => ?_⟩
    injection e with e
    subst e
    obtain ⟨c, h1, h2, h3⟩ := hc j x hj
    exact ⟨c, h1, h2, fun i u hu => hf.cell (h3 i u hu) (by rw [Go.Proofs.YtokebpeplopjhaaDoorW.PrintWords.add_block]; exact hM)⟩⟩
theorem blk_put2 {W : World} {g : Nat} {v y : Value} {t : TypeId} (h : W.heap[g]? = some (.cells #[v, y] t (0, 0))) (u : Value) : (W.setCell ⟨g, 0, none⟩ u).heap[g]? = some (.cells #[u, y] t (0, 0)) := by
  have p1 := blk_put h 0 u rfl
  simp only [List.setIfInBounds_toArray, List.set_cons_zero] at p1
  exact p1
theorem ItsP.one {P : Value → List Int → Prop} {y : It} {v1 v2 v3 v4 : Value} (h1 : P v1 y.df) (h2 : P v2 y.lo) (h3 : P v3 y.hi) (h4 : P v4 y.val) : ItsP P [y] [y.toEn.cells v1 v2 v3 ++ [v4]] :=
  ⟨rfl, fun j x hj => by
    match j with
    | 0 =>
      injection hj with hj
      subst hj
      exact ⟨v1, v2, v3, v4, rfl, h1, h2, h3, h4⟩
    | j + 1 => cases hj⟩
theorem kI_pre {w : World} {A : Option Addr} {n : Nat} {cs : List (List Value)} (h : kI.C w A n cs) (p : Nat) (hp : p ≤ n) : kI.C w A p (cs.take p) :=
  ⟨by rw [List.length_take, h.1]; omega, by have := h.2.1; omega, fun h0 => by
    obtain ⟨ad, e, hc⟩ := h.2.2 (by omega)
    refine ⟨ad, e, fun j x hj => hc j x ?_⟩
    rw [List.getElem?_take] at hj
    split at hj
    · exact hj
    · cases hj⟩
theorem kI_drop {w : World} {ad : Addr} {n : Nat} {cs : List (List Value)} (h : kI.C w (some ad) n cs) (p : Nat) (hp : p ≤ n) : kI.C w (some (ad.add (p * 11))) (n - p) (cs.drop p) :=
  ⟨by rw [List.length_drop, h.1], by have := h.2.1; omega, fun h0 => by
    obtain ⟨ad', e, hc⟩ := h.2.2 (by omega)
    injection e with e
    subst e
    refine ⟨_, rfl, fun j x hj => ?_⟩
    rw [List.getElem?_drop] at hj
    obtain ⟨c, h1, h2, h3⟩ := hc _ x hj
    refine ⟨c, h1, h2, fun i u hu => ?_⟩
    have := h3 i u hu
    show w.cell? ((ad.add (p * 11)).add (j * 11 + i)) = some u
    rw [Go.Proofs.YtokebpeplopjhaaDoorW.PrintWords.add_add]
    rw [show p * 11 + (j * 11 + i) = (p + j) * 11 + i by omega]
    exact this⟩
theorem kI_none {w : World} {n : Nat} {cs : List (List Value)} (h : cs.length = n) (B : Option Addr) (p : Nat) (hp : n = p) : kI.C w B (n - p) (cs.drop p) :=
  ⟨by rw [List.length_drop, h], by omega, fun h0 => by omega⟩
set_option maxRecDepth 100000 in
set_option maxHeartbeats 8000000 in
theorem rnew_any (l : List En) (A : Option Addr) (c : Nat) (w : World) (h : EsAt w A l) (hwf : ∀ e ∈ l, e.Wf) (hl : l.length ≤ 1024) (r : Int × Option DD) (hr : newR l = r) :
    Calls Tryd.prog 82 #[.slice A l.length c] w (RNewSaid w r) := by
  have HE := Aside0.mk h
  have HWF := Aside0.mk hwf
  have HR := Aside0.mk hr
  obtain ⟨n, hn⟩ : ∃ n, l.length = n := ⟨_, rfl⟩
  have HN := Aside0.mk hn
  rw [hn] at hl ⊢
  clear h hwf hr hn
  go_enter Tryd.func82, Tryd.ntmps82
  go_wp2
  go_loopw [5] (fun iv wr => ∃ (k m : Nat) (L : List It) (d : DD) (cs : List (List Value)) (A' : Option Addr) (c' : Nat), k ≤ n ∧ iv = .int .i64 k ∧ m ≤ k ∧ m ≤ c' ∧
    Aside0 (L.length = m ∧ cs.length = m) ∧ Aside0 (wr.heap[w.heap.size]? = some (.cells #[.slice A' m c', .int .i64 0] 149 (0, 0))) ∧ Aside0 (kI.C wr A' m cs) ∧ Aside0 (ItsP (ArgN w.heap.size wr) L cs ∧ ∀ ad, A' = some ad → w.heap.size < ad.block ∧ RowI wr ad ∧ ItsP (ArgN ad.block wr) L cs) ∧ Aside0 (RefOf L d ∧ Srt L ∧ ∀ i, 0 ≤ d.S i) ∧ Aside0 (newC l DD.none = newC (l.drop k) d) ∧ Aside0 (Below w.heap.size w wr)) (fun iv _ => n - (intOf iv).toNat)
  case atStart =>
    refine ⟨0, 0, [], DD.none, [], none, 0, Nat.zero_le _, rfl, Nat.le_refl _, Nat.le_refl _, ⟨rfl, rfl⟩, ⟨blk_new w _⟩, ⟨⟨rfl, Nat.zero_le _, fun h => absurd h (Nat.lt_irrefl 0)⟩⟩, ⟨ItsP.nil _, fun ad e => by cases e⟩, ⟨RefOf.none, List.Pairwise.nil, fun i => by simp [DD.none]⟩, ⟨rfl⟩, ⟨below_alloc (Below.refl _ _) _⟩⟩
  case round =>
    obtain ⟨k, m, L, d, cs, A', c', hk, rfl, hL, hmc, HLM, HK, HC, HI, HRF, HNC, HB⟩ := hrel
    by_cases hlt : k < n
    · obtain ⟨x, hx⟩ : ∃ x, l[k]? = some x := ⟨_, List.getElem?_eq_getElem (by rw [HN.out]; exact hlt)⟩
      have hxw := HWF.out x (List.mem_of_getElem? hx)
      obtain ⟨ad, A1, a1, A2, a2, A3, a3, rfl, g1, g2, g3, e0, e1, e2, e3, e4, e5, e6, e7, e8, e9⟩ := en_at HE.out hx
      have HGW := Aside0.mk (And.intro g1 (And.intro g2 g3))
      have HG := Aside0.mk (And.intro (g1.below HB.out) (And.intro (g2.below HB.out) (g3.below HB.out)))
      have y0 := pw_cell_below HB.out e0
      have y1 := pw_cell_below HB.out e1
      have y2 := pw_cell_below HB.out e2
      have y3 := pw_cell_below HB.out e3
      have y4 := pw_cell_below HB.out e4
      have y5 := pw_cell_below HB.out e5
      have y6 := pw_cell_below HB.out e6
      have y7 := pw_cell_below HB.out e7
      have y8 := pw_cell_below HB.out e8
      have y9 := pw_cell_below HB.out e9
      have HX := Aside0.mk hx
      have HY := Aside0.mk fun (X : World) (hX : Below wr.heap.size wr X) => (show _ ∧ _ ∧ _ ∧ _ ∧ _ ∧ _ ∧ _ ∧ _ ∧ _ ∧ _ from ⟨pw_cell_below hX y0, pw_cell_below hX y1, pw_cell_below hX y2, pw_cell_below hX y3, pw_cell_below hX y4, pw_cell_below hX y5, pw_cell_below hX y6, pw_cell_below hX y7, pw_cell_below hX y8, pw_cell_below hX y9⟩)
      have hdrop : l.drop k = x :: l.drop (k + 1) := by
        have hkl : k < l.length := by rw [HN.out]; exact hlt
        rw [List.drop_eq_getElem_cons hkl]
        have := HX.out
        rw [List.getElem?_eq_getElem hkl] at this
        injection this with this
        rw [this]
      have HDR := Aside0.mk hdrop
      have hi1 : (k : Int) < (n : Int) := by omega
      clear g1 g2 g3 hx hdrop e0 e1 e2 e3 e4 e5 e6 e7 e8 e9
      by_cases hm : mayC chkC x
      · have HM := Aside0.mk (decide_eq_true hm)
        have HHM := Aside0.mk hm
        go_wp2_with (go_at_call 118; refine (rmay_any x (enV x (.slice A1 x.df.length a1) (.slice A2 x.lo.length a2) (.slice A3 x.hi.length a3)) wr ⟨_, _, _, rfl, HG.out.1, HG.out.2.1, HG.out.2.2⟩).mono ?_; rw [HM.out]; rintro e w1 ⟨rfl, hb⟩; have HW1 := Aside0.mk hb; have HB1 := Aside0.mk (HB.out.trans (hb.mono HB.out.size)); clear hb)
        clear hm y0 y1 y2 y3 y4 y5 y6 y7 y8 y9
        go_loopw [6] (fun av wi => ∃ (p : Nat), p ≤ m ∧ av = .int .i64 p ∧ Aside0 (∀ a ∈ L.take p, befC a.ix a.sub x.ix x.sub) ∧ Aside0 (Below wr.heap.size wr wi)) (fun av _ => m - (intOf av).toNat)
        case atStart => exact ⟨0, Nat.zero_le _, rfl, ⟨by simp⟩, ⟨HW1.out⟩⟩
        case round =>
          rename World => wi
          obtain ⟨p, hp, rfl, HBF, HBI⟩ := hrel
          have hg1 := blk_below HK.out HBI.out
          have G0 : ∀ X, Below wi.heap.size wi X → X.cell? ⟨w.heap.size, 0, none⟩ = some (.slice A' m c') := fun X hX => pw_cell_below hX (Go.Proofs.YtokebpeplopjhaaDoorW.PrintWords.blk_cell hg1 0)
          have hS0 : Below wi.heap.size wi wi.drew := below_drew (Below.refl _ _)
          clear hg1
          by_cases hpm : p < m
          · obtain ⟨y, hy⟩ : ∃ y, L[p]? = some y := ⟨_, List.getElem?_eq_getElem (by rw [HLM.out.1]; exact hpm)⟩
            have HYY := Aside0.mk hy
            obtain ⟨ay, B1, b1, B2, b2, B3, b3, B4, b4, rfl, -, -, -, -, z0, z1, z2, z3, z4, z5, z6, z7, z8, z9, z10⟩ := it_at2 HBI.out (its_of_C (HLM.out.1.symm ▸ HC.out) (HI.out.1.imp fun _ _ h => h.argv)) hy
            obtain ⟨y0, y1, y2, y3, y4, y5, y6, y7, y8, y9⟩ := HY.out wi HBI.out
            have u0 : ∀ X, Below wi.heap.size wi X → _ := fun X hX => pw_cell_below hX y0
            have u1 : ∀ X, Below wi.heap.size wi X → _ := fun X hX => pw_cell_below hX y1
            have u2 : ∀ X, Below wi.heap.size wi X → _ := fun X hX => pw_cell_below hX y2
            have u3 : ∀ X, Below wi.heap.size wi X → _ := fun X hX => pw_cell_below hX y3
            have u4 : ∀ X, Below wi.heap.size wi X → _ := fun X hX => pw_cell_below hX y4
            have u5 : ∀ X, Below wi.heap.size wi X → _ := fun X hX => pw_cell_below hX y5
            have u6 : ∀ X, Below wi.heap.size wi X → _ := fun X hX => pw_cell_below hX y6
            have u7 : ∀ X, Below wi.heap.size wi X → _ := fun X hX => pw_cell_below hX y7
            have u8 : ∀ X, Below wi.heap.size wi X → _ := fun X hX => pw_cell_below hX y8
            have u9 : ∀ X, Below wi.heap.size wi X → _ := fun X hX => pw_cell_below hX y9
            have v0 : ∀ X, Below wi.heap.size wi X → _ := fun X hX => pw_cell_below hX z0
            have v1 : ∀ X, Below wi.heap.size wi X → _ := fun X hX => pw_cell_below hX z1
            have v2 : ∀ X, Below wi.heap.size wi X → _ := fun X hX => pw_cell_below hX z2
            have v3 : ∀ X, Below wi.heap.size wi X → _ := fun X hX => pw_cell_below hX z3
            have v4 : ∀ X, Below wi.heap.size wi X → _ := fun X hX => pw_cell_below hX z4
            have v5 : ∀ X, Below wi.heap.size wi X → _ := fun X hX => pw_cell_below hX z5
            have v6 : ∀ X, Below wi.heap.size wi X → _ := fun X hX => pw_cell_below hX z6
            have v7 : ∀ X, Below wi.heap.size wi X → _ := fun X hX => pw_cell_below hX z7
            have v8 : ∀ X, Below wi.heap.size wi X → _ := fun X hX => pw_cell_below hX z8
            have v9 : ∀ X, Below wi.heap.size wi X → _ := fun X hX => pw_cell_below hX z9
            clear y0 y1 y2 y3 y4 y5 y6 y7 y8 y9 z0 z1 z2 z3 z4 z5 z6 z7 z8 z9 z10 hy
            have hpi : (p : Int) < (m : Int) := by omega
            by_cases hbc : befC y.ix y.sub x.ix x.sub
            · have HBC := Aside0.mk (decide_eq_true hbc)
              have HBQ := Aside0.mk hbc
              clear hbc
              go_wp2
              go_region_held3 (fun X => Below wi.heap.size wi X) (first | assumption | exact hS0 | exact below_step (by assumption) (by assumption) | exact below_drew (by assumption))
                ((go_at_call 119; refine (rbefore_any y.toEn x B1 B2 B3 A1 A2 A3 b1 b2 b3 a1 a2 a3 _ _ _ _ _ _ _).mono ?_; rw [HBC.out]; rintro e w5 ⟨rfl, hb5⟩; have hs5 := below_step (by assumption) hb5; have HS5 := Aside0.mk hs5; clear hb5))
              go_wp2
              go_roundw
              case rel =>
                refine ⟨p + 1, by omega, by go_num, ⟨fun a ha => ?_⟩, ⟨HBI.out.trans (HS5.out.mono HBI.out.size)⟩⟩
                rw [List.take_add_one, HYY.out] at ha
                rcases List.mem_append.1 ha with ha | ha
                · exact HBF.out a ha
                · obtain rfl := List.mem_singleton.1 ha
                  exact HBQ.out
              case measure => simp [intOf]; omega
            · have HBC := Aside0.mk (decide_eq_false hbc)
              have HBQ := Aside0.mk hbc
              clear hbc
              go_wp2
              go_region_held3 (fun X => Below wi.heap.size wi X) (first | assumption | exact hS0 | exact below_step (by assumption) (by assumption) | exact below_drew (by assumption))
                ((go_at_call 119; refine (rbefore_any y.toEn x B1 B2 B3 A1 A2 A3 b1 b2 b3 a1 a2 a3 _ _ _ _ _ _ _).mono ?_; rw [HBC.out]; rintro e w5 ⟨rfl, hb5⟩; have hs5 := below_step (by assumption) hb5; have HS5 := Aside0.mk hs5; clear hb5))
              go_wp2
              by_cases hbd : befC x.ix x.sub y.ix y.sub
              · have HBD := Aside0.mk (decide_eq_true hbd)
                have HKY := Aside0.mk (show ∀ q, L[p]? = some q → befC x.ix x.sub q.ix q.sub from fun q hq => by rw [HYY.out] at hq; injection hq with hq; exact hq ▸ hbd)
                clear hbd
                have HDP := Aside0.mk (show ∀ X, Below wr.heap.size wr X → kI.C X (some (ay.add (p * 11))) (m - p) (cs.drop p) from fun X hX => kI_drop (Kd.C_below HC.out hX) p hp)
                have hpc3 : (p : Int) < (c' : Int) := by omega
                have hS5 : Below wi.heap.size wi w5.drew := below_drew HS5.out
                go_region_held3 (fun X => Below wi.heap.size wi X) (first | assumption | exact hS5 | exact below_step (by assumption) (by assumption) | exact below_drew (by assumption))
                  ((go_at_call 119; refine (rbefore_any x y.toEn A1 A2 A3 B1 B2 B3 a1 a2 a3 b1 b2 b3 _ _ _ _ _ _ _).mono ?_; rw [HBD.out]; rintro e w6 ⟨rfl, hb6⟩; have hs6 := below_step (by assumption) hb6; have HS6 := Aside0.mk (HBI.out.trans (hs6.mono HBI.out.size)); clear hb6))
                clear u0 u1 u2 u3 u4 u5 u6 u7 u8 u9 v0 v1 v2 v3 v4 v5 v6 v7 v8 v9 G0 hS0 hS5
                have hgz := blk_below HK.out HS6.out
                have HGZ := Aside0.mk hgz
                have g0 : w6.cell? ⟨w.heap.size, 0, none⟩ = some (.slice (some ay) m c') := Go.Proofs.YtokebpeplopjhaaDoorW.PrintWords.blk_cell hgz 0
                have HG0 := Aside0.mk g0
                have HCZ := Aside0.mk (Kd.C_below HC.out HS6.out)
                have HTK := Aside0.mk (kI_pre HCZ.out p hp)
                have HPL := Aside0.mk (show (cs.take p).length = p by rw [List.length_take, HLM.out.2]; omega)
                have hpc : (p : Int) ≤ (c' : Int) := by omega
                have hpm2 : (p : Int) ≤ (m : Int) := by omega
                clear hgz
                go_wp2_with ((with_reducible refine gate_builtin (b := .append) (xs := #[.tmp 72, .tmp 78]) rfl ?_); at_builtin; (refine Kd.R_append_rows kI (Rr := fun x cs => kI.K w6 x cs) (w0 := w6) w6.heap.size rfl (.tmp 72) (.tmp 78) 147 151 (.agg #[.int .u16 0, .int .u8 0, .string { data := #[] }, .int .u8 0, .int .u8 0, .slice none 0 0, .slice none 0 0, .slice none 0 0, .int .u8 0, .int .u8 0, .slice none 0 0]) 136 rfl Tryd.underlying147 info_ri rfl (by decide) (by decide) _ [] (cs.take p) (some ay) p c' (fun _ => True) (fun _ => False) rfl rfl (Kd.R_nil _ _ _ _ _) HTK.out (fun _ _ h => h) (fun _ hk => hk.elim) (fun _ _ => trivial) (Below.refl _ _) (Nat.le_refl _) (by simp; omega) ?_; intro v7 w7 hown hb hg hat; have HR7 := Aside0.mk (show Kd.R kI _ w7 w6.heap.size _ v7 (cs.take p) from hown); have HB7 := Aside0.mk hb; clear hown hb hg hat))
                obtain ⟨y0, y1, y2, y3, y4, y5, y6, y7, y8, y9⟩ := HY.out w6 HS6.out
                have u0 : ∀ X, Below w6.heap.size w6 X → _ := fun X hX => pw_cell_below hX y0
                have u1 : ∀ X, Below w6.heap.size w6 X → _ := fun X hX => pw_cell_below hX y1
                have u2 : ∀ X, Below w6.heap.size w6 X → _ := fun X hX => pw_cell_below hX y2
                have u3 : ∀ X, Below w6.heap.size w6 X → _ := fun X hX => pw_cell_below hX y3
                have u4 : ∀ X, Below w6.heap.size w6 X → _ := fun X hX => pw_cell_below hX y4
                have u5 : ∀ X, Below w6.heap.size w6 X → _ := fun X hX => pw_cell_below hX y5
                have u6 : ∀ X, Below w6.heap.size w6 X → _ := fun X hX => pw_cell_below hX y6
                have u7 : ∀ X, Below w6.heap.size w6 X → _ := fun X hX => pw_cell_below hX y7
                have u8 : ∀ X, Below w6.heap.size w6 X → _ := fun X hX => pw_cell_below hX y8
                have u9 : ∀ X, Below w6.heap.size w6 X → _ := fun X hX => pw_cell_below hX y9
                have hS7 : Below w6.heap.size w6 w7.drew := below_drew HB7.out
                clear y0 y1 y2 y3 y4 y5 y6 y7 y8 y9 g0
                go_region_held3 (fun X => Below w6.heap.size w6 X) (first | assumption | exact hS7 | exact below_alloc (by assumption) _ | exact HB9.out)
                  (first
                    | (go_at_call 120; refine (rfirst_any x (enV x (.slice A1 x.df.length a1) (.slice A2 x.lo.length a2) (.slice A3 x.hi.length a3)) w7.drew ⟨_, _, _, rfl, HG.out.1.below (HS6.out.trans (hS7.mono HS6.out.size)), HG.out.2.1.below (HS6.out.trans (hS7.mono HS6.out.size)), HG.out.2.2.below (HS6.out.trans (hS7.mono HS6.out.size))⟩).mono ?_; rintro e w8 ⟨v8, rfl, ⟨A8, a8, rfl, ha8⟩, ho8, hb8⟩; have HS8 := Aside0.mk (below_step (below_drew (Below.refl w7.heap.size w7)) hb8); have hs8 : Below w6.heap.size w6 w8 := HB7.out.trans (HS8.out.mono HB7.out.size); have HA8 := Aside0.mk (show ArgV w8 (.slice A8 (firstC x).length a8) (firstC x) from ⟨_, _, rfl, ha8⟩); have HO8 := Aside0.mk (show ∀ (k : Nat), (Value.slice A8 (firstC x).length a8).ownBlock = some k → w7.heap.size ≤ k from ho8); clear ha8 ho8 hb8)
                    | ((refine Kd.R_append_step kI (w0 := w6) (W := w8) w6.heap.size (by rfl) (.tmp 80) (.tmp 91) 147 151 (.agg #[.int .u16 0, .int .u8 0, .string { data := #[] }, .int .u8 0, .int .u8 0, .slice none 0 0, .slice none 0 0, .slice none 0 0, .int .u8 0, .int .u8 0, .slice none 0 0]) 136 rfl Tryd.underlying147 info_ri rfl (by decide) (by decide) _ (cs.take p) [.int .u16 x.ix, .int .u8 x.sub, .string x.name, .int .u8 x.ty, .int .u8 x.rt, .slice A1 x.df.length a1, .slice A2 x.lo.length a2, .slice A3 x.hi.length a3, .int .u8 x.tag, .int .u8 x.grp, .slice A8 (firstC x).length a8] [.int .u16 x.ix, .int .u8 x.sub, .string x.name, .int .u8 x.ty, .int .u8 x.rt, .slice A1 x.df.length a1, .slice A2 x.lo.length a2, .slice A3 x.hi.length a3, .int .u8 x.tag, .int .u8 x.grp, .slice A8 (firstC x).length a8] (fun _ => True) (fun _ => False) rfl rfl ⟨rfl, rfl, by intro u hu; simp at hu; rcases hu with rfl | rfl | rfl | rfl | rfl | rfl | rfl | rfl | rfl | rfl | rfl <;> rfl⟩ (fun _ hk => hk.elim) (fun _ _ => trivial) (Kd.R_below HR7.out HS8.out) (HB7.out.trans (HS8.out.mono HB7.out.size)) (Nat.le_trans HB7.out.size HS8.out.size) (by rw [HPL.out]; omega) ?_; intro v9 w9 hown hb hg hat; have HR9 := Aside0.mk hown; have HB9 := Aside0.mk hb; have HT9 := Aside0.mk (show v9.ownBlock = v7.ownBlock ∨ ∃ b, v9.ownBlock = some b ∧ w8.heap.size ≤ b from hat); have HG9 := Aside0.mk (show w8.grownBy w9 v7.ownBlock from hg); clear hown hb hg hat)))
                have HLL := Aside0.mk (show ((cs.take p ++ [([.int .u16 x.ix, .int .u8 x.sub, .string x.name, .int .u8 x.ty, .int .u8 x.rt, .slice A1 x.df.length a1, .slice A2 x.lo.length a2, .slice A3 x.hi.length a3, .int .u8 x.tag, .int .u8 x.grp, .slice A8 (firstC x).length a8] : List Value)]).length + (m - p)) * 136 ≤ 140737488355328 by rw [List.length_append, HPL.out]; simp only [List.length_cons, List.length_nil]; omega)
                have g9 : w9.cell? ⟨w.heap.size, 0, none⟩ = some (.slice (some ay) m c') := pw_cell_below HB9.out HG0.out
                clear u0 u1 u2 u3 u4 u5 u6 u7 u8 u9 hS7 hs8
                go_wp2_with ((with_reducible refine gate_builtin (b := .append) (xs := #[.tmp 93, .tmp 99]) rfl ?_); at_builtin; (refine Kd.R_append_rows kI (Rr := fun x cs => kI.K w9 x cs) (w0 := w6) w6.heap.size rfl (.tmp 93) (.tmp 99) 147 151 (.agg #[.int .u16 0, .int .u8 0, .string { data := #[] }, .int .u8 0, .int .u8 0, .slice none 0 0, .slice none 0 0, .slice none 0 0, .int .u8 0, .int .u8 0, .slice none 0 0]) 136 rfl Tryd.underlying147 info_ri rfl (by decide) (by decide) v9 (cs.take p ++ [([.int .u16 x.ix, .int .u8 x.sub, .string x.name, .int .u8 x.ty, .int .u8 x.rt, .slice A1 x.df.length a1, .slice A2 x.lo.length a2, .slice A3 x.hi.length a3, .int .u8 x.tag, .int .u8 x.grp, .slice A8 (firstC x).length a8] : List Value)]) (cs.drop p) _ (m - p) _ (fun _ => True) (fun _ => False) rfl rfl HR9.out (HDP.out w9 (HS6.out.trans (HB9.out.mono HS6.out.size))) (fun _ _ h => h) (fun _ hk => hk.elim) (fun _ _ => trivial) HB9.out HB9.out.size HLL.out ?_; intro v10 w10 hown hb hg hat; have HT10 := Aside0.mk (show v10.ownBlock = v9.ownBlock ∨ ∃ b, v10.ownBlock = some b ∧ w9.heap.size ≤ b from hat); have HG10 := Aside0.mk (show w9.grownBy w10 v9.ownBlock from hg); have HB10 := Aside0.mk hb; obtain ⟨g10, c10, rfl, hgb, hgl, hcs⟩ := Kd.R_form hown (by simp; omega); have HCS := Aside0.mk hcs; have HGB := Aside0.mk (And.intro hgb hgl); obtain ⟨-, hlc, hC⟩ := Kd.R_reads' hown; have HLEN := Aside0.mk (show (cs.take p ++ [([.int .u16 x.ix, .int .u8 x.sub, .string x.name, .int .u8 x.ty, .int .u8 x.rt, .slice A1 x.df.length a1, .slice A2 x.lo.length a2, .slice A3 x.hi.length a3, .int .u8 x.tag, .int .u8 x.grp, .slice A8 (firstC x).length a8] : List Value)] ++ cs.drop p).length = m + 1 by rw [List.length_append, List.length_append, HPL.out, List.length_drop, HLM.out.2]; simp only [List.length_cons, List.length_nil]; omega); rw [HLEN.out] at hC hlc ⊢; have HC10 := Aside0.mk hC; have HLC := Aside0.mk hlc; have g10a := Go.Proofs.YtokebpeplopjhaaDoorW.PrintWords.blk_cell (blk_below HGZ.out hb) 0; have g10b := Go.Proofs.YtokebpeplopjhaaDoorW.PrintWords.blk_frozen (blk_below HGZ.out hb) 0; clear hown hb hg hat hC hlc hgb hgl hcs))
                go_roundw
                case rel =>
                  have hins := srt_ins HRF.out.2.1 HRF.out.1 HBF.out HKY.out
                  have hgw : w.heap.size < w6.heap.size := blk_lt HGZ.out
                  have hgr : w.heap.size < wr.heap.size := blk_lt HK.out
                  have hb10 : Below wr.heap.size wr w10 := HS6.out.trans (HB10.out.mono HS6.out.size)
                  have hb10w : Below w.heap.size w w10 := HB.out.trans (hb10.mono HB.out.size)
                  have hs67 := HB7.out.size
                  have hs78 := HS8.out.size
                  have hs6 := HS6.out.size
                  obtain ⟨hgb, hgl⟩ := HGB.out
                  have f : Fr (fun k => k = w.heap.size) w10 (w10.setCell ⟨w.heap.size, 0, none⟩ (.slice (some ⟨g10, 0, none⟩) (m + 1) c10)) := Fr.setCell (M := fun k => k = w.heap.size) w10 ⟨w.heap.size, 0, none⟩ _ (.inl rfl)
                  have h7 : ∀ k, v7.ownBlock = some k → k < w7.heap.size := Kd.R_lt HR7.out
                  have h10 : g10 < w7.heap.size ∨ w8.heap.size ≤ g10 := by
                    have hs9 : w8.heap.size ≤ w9.heap.size := HG9.out.size
                    rcases HT10.out with e | ⟨b, e, hb⟩
                    · rcases HT9.out with e2 | ⟨b, e2, hb⟩
                      · exact .inl (h7 g10 (by rw [← e2, ← e]; rfl))
                      · rw [e2] at e
                        have e : some g10 = some b := e
                        injection e with e
                        exact .inr (by omega)
                    · have e : some g10 = some b := e
                      injection e with e
                      exact .inr (by omega)
                  have f9 : Fr (fun k => v7.ownBlock = some k) w8 w9 := Fr.of_grownBy HG9.out (fun k hk => .inl hk)
                  have f10 : Fr (fun k => v9.ownBlock = some k) w9 w10 := Fr.of_grownBy HG10.out (fun k hk => .inl hk)
                  have n8 : ∀ g, (g < w7.heap.size ∨ w8.heap.size ≤ g) → ArgN g w10 (.slice A8 (firstC x).length a8) (firstC x) := by
                    intro g hg
                    have q8 : ArgN g w8 (.slice A8 (firstC x).length a8) (firstC x) := argn_at HA8.out (fun k hk hlt e => by have := HO8.out k hk; omega)
                    refine q8.fr ((f9.mono (fun k h => .inl h)).trans (f10.mono (fun k h => .inr h)) : Fr (fun k => v7.ownBlock = some k ∨ v9.ownBlock = some k) w8 w10) (fun k hk hlt e => ?_)
                    have hk7 := HO8.out k hk
                    rcases e with e | e
                    · have := h7 k e
                      omega
                    · rcases HT9.out with e2 | ⟨b, e2, hb⟩
                      · have := h7 k (by rw [← e2]; exact e)
                        omega
                      · rw [e2] at e
                        injection e with e
                        omega
                  have x1 : ∀ {v l}, ArgV w v l → ArgN w.heap.size (w10.setCell ⟨w.heap.size, 0, none⟩ (.slice (some ⟨g10, 0, none⟩) (m + 1) c10)) v l := fun h => ((h.toN (Nat.le_refl _)).below hb10w).set f
                  have x2 : ∀ {v l}, ArgV w v l → ArgN g10 (w10.setCell ⟨w.heap.size, 0, none⟩ (.slice (some ⟨g10, 0, none⟩) (m + 1) c10)) v l := fun h => ArgN.two ((h.toN (g := g10) (by omega)).below hb10w) ((h.toN (g := w.heap.size) (Nat.le_refl _)).below hb10w) f
                  have p1 : ItsP (ArgN w.heap.size (w10.setCell ⟨w.heap.size, 0, none⟩ (.slice (some ⟨g10, 0, none⟩) (m + 1) c10))) L cs := HI.out.1.imp fun v a h => (h.below hb10).set f
                  have p2 : ItsP (ArgN g10 (w10.setCell ⟨w.heap.size, 0, none⟩ (.slice (some ⟨g10, 0, none⟩) (m + 1) c10))) L cs := HI.out.1.imp fun v a h => ArgN.two ((h.argv.toN (g := g10) (by omega)).below hb10) (h.below hb10) f
                  refine ⟨k + 1, m + 1, L.take p ++ [⟨x, firstC x⟩] ++ L.drop p, d.add x, cs.take p ++ [([.int .u16 x.ix, .int .u8 x.sub, .string x.name, .int .u8 x.ty, .int .u8 x.rt, .slice A1 x.df.length a1, .slice A2 x.lo.length a2, .slice A3 x.hi.length a3, .int .u8 x.tag, .int .u8 x.grp, .slice A8 (firstC x).length a8] : List Value)] ++ cs.drop p, some ⟨g10, 0, none⟩, c10, by omega, by go_num, by omega, HLC.out, ⟨?_, HLEN.out⟩, ⟨blk_put2 (blk_below HGZ.out HB10.out) _⟩, ⟨kI_fr HC10.out f (fun e => absurd (show g10 = w.heap.size from e) (by omega))⟩, ⟨?_, fun ad e => ?_⟩, ⟨HRF.out.1.ins p hins.1 (HRF.out.2.2 _), hins.2, fun i => ?_⟩, ⟨?_⟩, ⟨hb10w.setCell (Nat.le_refl _) _⟩⟩
                  · have := HLM.out.1
                    simp only [List.length_append, List.length_take, List.length_drop, List.length_cons, List.length_nil]
                    omega
                  · exact ((p1.take p).app (ItsP.one (x1 HGW.out.1) (x1 HGW.out.2.1) (x1 HGW.out.2.2) ((n8 _ (.inl (by omega))).set f))).app (p1.drop p)
                  · injection e with e
                    subst e
                    exact ⟨by show w.heap.size < g10; omega, ⟨rfl, by obtain ⟨cells, hcl⟩ := HCS.out; exact ⟨cells, (f.block g10 hgl (fun e => by have : g10 = w.heap.size := e; omega)).trans hcl⟩⟩, ((p2.take p).app (ItsP.one (x2 HGW.out.1) (x2 HGW.out.2.1) (x2 HGW.out.2.2) (ArgN.two (n8 _ h10) (n8 _ (.inl (by omega))) f))).app (p2.drop p)⟩
                  · have := HRF.out.2.2
                    rw [add_eq]
                    show 0 ≤ (if i = x.ix then d.S x.ix + 1 else d.S i)
                    have q1 := this i
                    have q2 := this x.ix
                    split <;> omega
                  · rw [HNC.out, HDR.out]
                    simp [newC, HHM.out, hins.1]
                case measure => simp [intOf]; omega
              · have HBD := Aside0.mk (decide_eq_false hbd)
                have HTW := Aside0.mk (srt_twice HRF.out.1 HYY.out HBQ.out hbd)
                have hrr : r = (6, none) := by
                  rw [← HR.out]
                  unfold newR
                  rw [if_neg (by have := HN.out; omega), HNC.out, HDR.out]
                  simp [newC, HHM.out, HTW.out]
                subst hrr
                clear hbd
                have hS5 : Below wi.heap.size wi w5.drew := below_drew HS5.out
                go_region_held3 (fun X => Below wi.heap.size wi X) (first | assumption | exact hS5 | exact below_step (by assumption) (by assumption) | exact below_drew (by assumption))
                  ((go_at_call 119; refine (rbefore_any x y.toEn A1 A2 A3 B1 B2 B3 a1 a2 a3 b1 b2 b3 _ _ _ _ _ _ _).mono ?_; rw [HBD.out]; rintro e w6 ⟨rfl, hb6⟩; have hs6 := below_step (by assumption) hb6; have HS6 := Aside0.mk (HBI.out.trans (hs6.mono HBI.out.size)); clear hb6))
                go_wp2
                go_ret2
                exact ⟨HB.out.trans (HS6.out.mono HB.out.size), rfl⟩
          · have HKY := Aside0.mk (show ∀ q, L[p]? = some q → befC x.ix x.sub q.ix q.sub from fun q hq => by rw [List.getElem?_eq_none (by rw [HLM.out.1]; omega)] at hq; cases hq)
            have hpi : ¬ (p : Int) < (m : Int) := by omega
            have HDP := Aside0.mk (show ∀ X, Below wr.heap.size wr X → ∀ B, kI.C X B (m - p) (cs.drop p) from fun X hX B => kI_none HLM.out.2 B p (by omega))
            have g0i := G0 wi (Below.refl _ _)
            clear G0 hS0
            go_wp2
            go_quiet (fail)
            rename Nat => q1
            go_wp2
            go_quiet (fail)
            rename Nat => q2
            have HS6 := Aside0.mk (HBI.out.trans ((below_drewN (below_drewN (Below.refl wi.heap.size wi) q1) q2).mono HBI.out.size))
            generalize (wi.drewN q1).drewN q2 = w6 at HS6 ⊢
            have hgz := blk_below HK.out HS6.out
            have HGZ := Aside0.mk hgz
            have g0 : w6.cell? ⟨w.heap.size, 0, none⟩ = some (.slice A' m c') := Go.Proofs.YtokebpeplopjhaaDoorW.PrintWords.blk_cell hgz 0
            have HG0 := Aside0.mk g0
            have HCZ := Aside0.mk (Kd.C_below HC.out HS6.out)
            have HTK := Aside0.mk (kI_pre HCZ.out p hp)
            have HPL := Aside0.mk (show (cs.take p).length = p by rw [List.length_take, HLM.out.2]; omega)
            have hpc : (p : Int) ≤ (c' : Int) := by omega
            have hpm2 : (p : Int) ≤ (m : Int) := by omega
            clear hgz
            go_wp2_with ((with_reducible refine gate_builtin (b := .append) (xs := #[.tmp 72, .tmp 78]) rfl ?_); at_builtin; (refine Kd.R_append_rows kI (Rr := fun x cs => kI.K w6 x cs) (w0 := w6) w6.heap.size rfl (.tmp 72) (.tmp 78) 147 151 (.agg #[.int .u16 0, .int .u8 0, .string { data := #[] }, .int .u8 0, .int .u8 0, .slice none 0 0, .slice none 0 0, .slice none 0 0, .int .u8 0, .int .u8 0, .slice none 0 0]) 136 rfl Tryd.underlying147 info_ri rfl (by decide) (by decide) _ [] (cs.take p) A' p c' (fun _ => True) (fun _ => False) rfl rfl (Kd.R_nil _ _ _ _ _) HTK.out (fun _ _ h => h) (fun _ hk => hk.elim) (fun _ _ => trivial) (Below.refl _ _) (Nat.le_refl _) (by simp; omega) ?_; intro v7 w7 hown hb hg hat; have HR7 := Aside0.mk (show Kd.R kI _ w7 w6.heap.size _ v7 (cs.take p) from hown); have HB7 := Aside0.mk hb; clear hown hb hg hat))
            obtain ⟨y0, y1, y2, y3, y4, y5, y6, y7, y8, y9⟩ := HY.out w6 HS6.out
            have u0 : ∀ X, Below w6.heap.size w6 X → _ := fun X hX => pw_cell_below hX y0
            have u1 : ∀ X, Below w6.heap.size w6 X → _ := fun X hX => pw_cell_below hX y1
            have u2 : ∀ X, Below w6.heap.size w6 X → _ := fun X hX => pw_cell_below hX y2
            have u3 : ∀ X, Below w6.heap.size w6 X → _ := fun X hX => pw_cell_below hX y3
            have u4 : ∀ X, Below w6.heap.size w6 X → _ := fun X hX => pw_cell_below hX y4
            have u5 : ∀ X, Below w6.heap.size w6 X → _ := fun X hX => pw_cell_below hX y5
            have u6 : ∀ X, Below w6.heap.size w6 X → _ := fun X hX => pw_cell_below hX y6
            have u7 : ∀ X, Below w6.heap.size w6 X → _ := fun X hX => pw_cell_below hX y7
            have u8 : ∀ X, Below w6.heap.size w6 X → _ := fun X hX => pw_cell_below hX y8
            have u9 : ∀ X, Below w6.heap.size w6 X → _ := fun X hX => pw_cell_below hX y9
            have hS7 : Below w6.heap.size w6 w7.drew := below_drew HB7.out
            clear y0 y1 y2 y3 y4 y5 y6 y7 y8 y9 g0
            go_region_held3 (fun X => Below w6.heap.size w6 X) (first | assumption | exact hS7 | exact below_alloc (by assumption) _ | exact HB9.out)
              (first
                | (go_at_call 120; refine (rfirst_any x (enV x (.slice A1 x.df.length a1) (.slice A2 x.lo.length a2) (.slice A3 x.hi.length a3)) w7.drew ⟨_, _, _, rfl, HG.out.1.below (HS6.out.trans (hS7.mono HS6.out.size)), HG.out.2.1.below (HS6.out.trans (hS7.mono HS6.out.size)), HG.out.2.2.below (HS6.out.trans (hS7.mono HS6.out.size))⟩).mono ?_; rintro e w8 ⟨v8, rfl, ⟨A8, a8, rfl, ha8⟩, ho8, hb8⟩; have HS8 := Aside0.mk (below_step (below_drew (Below.refl w7.heap.size w7)) hb8); have hs8 : Below w6.heap.size w6 w8 := HB7.out.trans (HS8.out.mono HB7.out.size); have HA8 := Aside0.mk (show ArgV w8 (.slice A8 (firstC x).length a8) (firstC x) from ⟨_, _, rfl, ha8⟩); have HO8 := Aside0.mk (show ∀ (k : Nat), (Value.slice A8 (firstC x).length a8).ownBlock = some k → w7.heap.size ≤ k from ho8); clear ha8 ho8 hb8)
                | ((refine Kd.R_append_step kI (w0 := w6) (W := w8) w6.heap.size (by rfl) (.tmp 80) (.tmp 91) 147 151 (.agg #[.int .u16 0, .int .u8 0, .string { data := #[] }, .int .u8 0, .int .u8 0, .slice none 0 0, .slice none 0 0, .slice none 0 0, .int .u8 0, .int .u8 0, .slice none 0 0]) 136 rfl Tryd.underlying147 info_ri rfl (by decide) (by decide) _ (cs.take p) [.int .u16 x.ix, .int .u8 x.sub, .string x.name, .int .u8 x.ty, .int .u8 x.rt, .slice A1 x.df.length a1, .slice A2 x.lo.length a2, .slice A3 x.hi.length a3, .int .u8 x.tag, .int .u8 x.grp, .slice A8 (firstC x).length a8] [.int .u16 x.ix, .int .u8 x.sub, .string x.name, .int .u8 x.ty, .int .u8 x.rt, .slice A1 x.df.length a1, .slice A2 x.lo.length a2, .slice A3 x.hi.length a3, .int .u8 x.tag, .int .u8 x.grp, .slice A8 (firstC x).length a8] (fun _ => True) (fun _ => False) rfl rfl ⟨rfl, rfl, by intro u hu; simp at hu; rcases hu with rfl | rfl | rfl | rfl | rfl | rfl | rfl | rfl | rfl | rfl | rfl <;> rfl⟩ (fun _ hk => hk.elim) (fun _ _ => trivial) (Kd.R_below HR7.out HS8.out) (HB7.out.trans (HS8.out.mono HB7.out.size)) (Nat.le_trans HB7.out.size HS8.out.size) (by rw [HPL.out]; omega) ?_; intro v9 w9 hown hb hg hat; have HR9 := Aside0.mk hown; have HB9 := Aside0.mk hb; have HT9 := Aside0.mk (show v9.ownBlock = v7.ownBlock ∨ ∃ b, v9.ownBlock = some b ∧ w8.heap.size ≤ b from hat); have HG9 := Aside0.mk (show w8.grownBy w9 v7.ownBlock from hg); clear hown hb hg hat)))
            have HLL := Aside0.mk (show ((cs.take p ++ [([.int .u16 x.ix, .int .u8 x.sub, .string x.name, .int .u8 x.ty, .int .u8 x.rt, .slice A1 x.df.length a1, .slice A2 x.lo.length a2, .slice A3 x.hi.length a3, .int .u8 x.tag, .int .u8 x.grp, .slice A8 (firstC x).length a8] : List Value)]).length + (m - p)) * 136 ≤ 140737488355328 by rw [List.length_append, HPL.out]; simp only [List.length_cons, List.length_nil]; omega)
            have g9 : w9.cell? ⟨w.heap.size, 0, none⟩ = some (.slice A' m c') := pw_cell_below HB9.out HG0.out
            clear u0 u1 u2 u3 u4 u5 u6 u7 u8 u9 hS7 hs8
            go_wp2_with ((with_reducible refine gate_builtin (b := .append) (xs := #[.tmp 93, .tmp 99]) rfl ?_); at_builtin; (refine Kd.R_append_rows kI (Rr := fun x cs => kI.K w9 x cs) (w0 := w6) w6.heap.size rfl (.tmp 93) (.tmp 99) 147 151 (.agg #[.int .u16 0, .int .u8 0, .string { data := #[] }, .int .u8 0, .int .u8 0, .slice none 0 0, .slice none 0 0, .slice none 0 0, .int .u8 0, .int .u8 0, .slice none 0 0]) 136 rfl Tryd.underlying147 info_ri rfl (by decide) (by decide) v9 (cs.take p ++ [([.int .u16 x.ix, .int .u8 x.sub, .string x.name, .int .u8 x.ty, .int .u8 x.rt, .slice A1 x.df.length a1, .slice A2 x.lo.length a2, .slice A3 x.hi.length a3, .int .u8 x.tag, .int .u8 x.grp, .slice A8 (firstC x).length a8] : List Value)]) (cs.drop p) _ (m - p) _ (fun _ => True) (fun _ => False) rfl rfl HR9.out (HDP.out w9 (HS6.out.trans (HB9.out.mono HS6.out.size)) _) (fun _ _ h => h) (fun _ hk => hk.elim) (fun _ _ => trivial) HB9.out HB9.out.size HLL.out ?_; intro v10 w10 hown hb hg hat; have HT10 := Aside0.mk (show v10.ownBlock = v9.ownBlock ∨ ∃ b, v10.ownBlock = some b ∧ w9.heap.size ≤ b from hat); have HG10 := Aside0.mk (show w9.grownBy w10 v9.ownBlock from hg); have HB10 := Aside0.mk hb; obtain ⟨g10, c10, rfl, hgb, hgl, hcs⟩ := Kd.R_form hown (by simp; omega); have HCS := Aside0.mk hcs; have HGB := Aside0.mk (And.intro hgb hgl); obtain ⟨-, hlc, hC⟩ := Kd.R_reads' hown; have HLEN := Aside0.mk (show (cs.take p ++ [([.int .u16 x.ix, .int .u8 x.sub, .string x.name, .int .u8 x.ty, .int .u8 x.rt, .slice A1 x.df.length a1, .slice A2 x.lo.length a2, .slice A3 x.hi.length a3, .int .u8 x.tag, .int .u8 x.grp, .slice A8 (firstC x).length a8] : List Value)] ++ cs.drop p).length = m + 1 by rw [List.length_append, List.length_append, HPL.out, List.length_drop, HLM.out.2]; simp only [List.length_cons, List.length_nil]; omega); rw [HLEN.out] at hC hlc ⊢; have HC10 := Aside0.mk hC; have HLC := Aside0.mk hlc; have g10a := Go.Proofs.YtokebpeplopjhaaDoorW.PrintWords.blk_cell (blk_below HGZ.out hb) 0; have g10b := Go.Proofs.YtokebpeplopjhaaDoorW.PrintWords.blk_frozen (blk_below HGZ.out hb) 0; clear hown hb hg hat hC hlc hgb hgl hcs))
            go_roundw
            case rel =>
              have hins := srt_ins HRF.out.2.1 HRF.out.1 HBF.out HKY.out
              have hgw : w.heap.size < w6.heap.size := blk_lt HGZ.out
              have hgr : w.heap.size < wr.heap.size := blk_lt HK.out
              have hb10 : Below wr.heap.size wr w10 := HS6.out.trans (HB10.out.mono HS6.out.size)
              have hb10w : Below w.heap.size w w10 := HB.out.trans (hb10.mono HB.out.size)
              have hs67 := HB7.out.size
              have hs78 := HS8.out.size
              have hs6 := HS6.out.size
              obtain ⟨hgb, hgl⟩ := HGB.out
              have f : Fr (fun k => k = w.heap.size) w10 (w10.setCell ⟨w.heap.size, 0, none⟩ (.slice (some ⟨g10, 0, none⟩) (m + 1) c10)) := Fr.setCell (M := fun k => k = w.heap.size) w10 ⟨w.heap.size, 0, none⟩ _ (.inl rfl)
              have h7 : ∀ k, v7.ownBlock = some k → k < w7.heap.size := Kd.R_lt HR7.out
              have h10 : g10 < w7.heap.size ∨ w8.heap.size ≤ g10 := by
                have hs9 : w8.heap.size ≤ w9.heap.size := HG9.out.size
                rcases HT10.out with e | ⟨b, e, hb⟩
                · rcases HT9.out with e2 | ⟨b, e2, hb⟩
                  · exact .inl (h7 g10 (by rw [← e2, ← e]; rfl))
                  · rw [e2] at e
                    have e : some g10 = some b := e
                    injection e with e
                    exact .inr (by omega)
                · have e : some g10 = some b := e
                  injection e with e
                  exact .inr (by omega)
              have f9 : Fr (fun k => v7.ownBlock = some k) w8 w9 := Fr.of_grownBy HG9.out (fun k hk => .inl hk)
              have f10 : Fr (fun k => v9.ownBlock = some k) w9 w10 := Fr.of_grownBy HG10.out (fun k hk => .inl hk)
              have n8 : ∀ g, (g < w7.heap.size ∨ w8.heap.size ≤ g) → ArgN g w10 (.slice A8 (firstC x).length a8) (firstC x) := by
                intro g hg
                have q8 : ArgN g w8 (.slice A8 (firstC x).length a8) (firstC x) := argn_at HA8.out (fun k hk hlt e => by have := HO8.out k hk; omega)
                refine q8.fr ((f9.mono (fun k h => .inl h)).trans (f10.mono (fun k h => .inr h)) : Fr (fun k => v7.ownBlock = some k ∨ v9.ownBlock = some k) w8 w10) (fun k hk hlt e => ?_)
                have hk7 := HO8.out k hk
                rcases e with e | e
                · have := h7 k e
                  omega
                · rcases HT9.out with e2 | ⟨b, e2, hb⟩
                  · have := h7 k (by rw [← e2]; exact e)
                    omega
                  · rw [e2] at e
                    injection e with e
                    omega
              have x1 : ∀ {v l}, ArgV w v l → ArgN w.heap.size (w10.setCell ⟨w.heap.size, 0, none⟩ (.slice (some ⟨g10, 0, none⟩) (m + 1) c10)) v l := fun h => ((h.toN (Nat.le_refl _)).below hb10w).set f
              have x2 : ∀ {v l}, ArgV w v l → ArgN g10 (w10.setCell ⟨w.heap.size, 0, none⟩ (.slice (some ⟨g10, 0, none⟩) (m + 1) c10)) v l := fun h => ArgN.two ((h.toN (g := g10) (by omega)).below hb10w) ((h.toN (g := w.heap.size) (Nat.le_refl _)).below hb10w) f
              have p1 : ItsP (ArgN w.heap.size (w10.setCell ⟨w.heap.size, 0, none⟩ (.slice (some ⟨g10, 0, none⟩) (m + 1) c10))) L cs := HI.out.1.imp fun v a h => (h.below hb10).set f
              have p2 : ItsP (ArgN g10 (w10.setCell ⟨w.heap.size, 0, none⟩ (.slice (some ⟨g10, 0, none⟩) (m + 1) c10))) L cs := HI.out.1.imp fun v a h => ArgN.two ((h.argv.toN (g := g10) (by omega)).below hb10) (h.below hb10) f
              refine ⟨k + 1, m + 1, L.take p ++ [⟨x, firstC x⟩] ++ L.drop p, d.add x, cs.take p ++ [([.int .u16 x.ix, .int .u8 x.sub, .string x.name, .int .u8 x.ty, .int .u8 x.rt, .slice A1 x.df.length a1, .slice A2 x.lo.length a2, .slice A3 x.hi.length a3, .int .u8 x.tag, .int .u8 x.grp, .slice A8 (firstC x).length a8] : List Value)] ++ cs.drop p, some ⟨g10, 0, none⟩, c10, by omega, by go_num, by omega, HLC.out, ⟨?_, HLEN.out⟩, ⟨blk_put2 (blk_below HGZ.out HB10.out) _⟩, ⟨kI_fr HC10.out f (fun e => absurd (show g10 = w.heap.size from e) (by omega))⟩, ⟨?_, fun ad e => ?_⟩, ⟨HRF.out.1.ins p hins.1 (HRF.out.2.2 _), hins.2, fun i => ?_⟩, ⟨?_⟩, ⟨hb10w.setCell (Nat.le_refl _) _⟩⟩
              · have := HLM.out.1
                simp only [List.length_append, List.length_take, List.length_drop, List.length_cons, List.length_nil]
                omega
              · exact ((p1.take p).app (ItsP.one (x1 HGW.out.1) (x1 HGW.out.2.1) (x1 HGW.out.2.2) ((n8 _ (.inl (by omega))).set f))).app (p1.drop p)
              · injection e with e
                subst e
                exact ⟨by show w.heap.size < g10; omega, ⟨rfl, by obtain ⟨cells, hcl⟩ := HCS.out; exact ⟨cells, (f.block g10 hgl (fun e => by have : g10 = w.heap.size := e; omega)).trans hcl⟩⟩, ((p2.take p).app (ItsP.one (x2 HGW.out.1) (x2 HGW.out.2.1) (x2 HGW.out.2.2) (ArgN.two (n8 _ h10) (n8 _ (.inl (by omega))) f))).app (p2.drop p)⟩
              · have := HRF.out.2.2
                rw [add_eq]
                show 0 ≤ (if i = x.ix then d.S x.ix + 1 else d.S i)
                have q1 := this i
                have q2 := this x.ix
                split <;> omega
              · rw [HNC.out, HDR.out]
                simp [newC, HHM.out, hins.1]
            case measure => simp [intOf]; omega
      · have HM := Aside0.mk (decide_eq_false hm)
        have hrr : r = (80, none) := by
          rw [← HR.out]
          unfold newR
          rw [if_neg (by have := HN.out; omega), HNC.out, HDR.out]
          simp [newC, hm]
        subst hrr
        go_wp2_with (go_at_call 118; go_loud (refine (rmay_any x (enV x (.slice A1 x.df.length a1) (.slice A2 x.lo.length a2) (.slice A3 x.hi.length a3)) wr ⟨_, _, _, rfl, HG.out.1, HG.out.2.1, HG.out.2.2⟩).mono ?_; rw [HM.out]; rintro e w1 ⟨rfl, hb⟩; have HB1 := Aside0.mk (HB.out.trans (hb.mono HB.out.size)); clear hb))
        go_ret2
        exact ⟨HB1.out, rfl⟩
    · obtain rfl : k = n := by omega
      have hrr : r = (0, some d) := by
        rw [← HR.out]
        unfold newR
        rw [if_neg (by have := HN.out; omega), HNC.out, List.drop_of_length_le (by rw [HN.out]; exact Nat.le_refl _)]
        simp [newC]
      subst hrr
      go_wp2
      go_ret2
      refine ⟨HB.out, _, L, rfl, ⟨A', c', cs, Nat.le_refl _, ?_, ?_, by have := HLM.out.1; omega, by have := HLM.out.1; omega, HI.out.1, fun ad e => ?_⟩, HRF.out.1, HRF.out.2.1⟩
      · rw [HLM.out.1]
        exact HK.out
      · rw [HLM.out.1]
        exact HC.out
      · obtain ⟨q1, q3, q2⟩ := HI.out.2 ad e
        exact ⟨Nat.le_of_lt q1, by omega, q3, q2⟩
end Go.Proofs.YtokebpeplopjhaaDoor.Mp
