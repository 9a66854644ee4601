/- dict.find, whole; Get, Find, first, lend. dict.May. dict.put. dict.Write. -/
import Derived.Test.YtokebpeplopjhaaDoorY6
import Derived.Laws.BitsAllLaws
import Derived.Deep.RegionHeld3
namespace Go.Proofs.YtokebpeplopjhaaDoor.Mp
open Go.RowKit Go.Shelf Go.Proofs.YtokebpeplopjhaaDoor.Rng Go.Proofs.YtokebpeplopjhaaDoorW.PrintWords Go.Proofs.YtokebpeplopjhaaDoorW.PrintMore Go.Proofs.YtokebpeplopjhaaDoorW.PrintLast

theorem find_any (B : Nat) (v : Value) (o : Option DD) (i s : Int) (hi : 0 ≤ i ∧ i < 65536) (hs : 0 ≤ s ∧ s < 256) (w : World) (h : DictV B w v o) :
    Calls Tryd.prog 76 #[v, pl i s] w (FndSaid w (findC o i s)) := by
  cases o with
  | none =>
    obtain rfl : v = .pointer none := h
    exact find_nil i s w
  | some d =>
    obtain ⟨g, rfl, hd⟩ := h
    cases hx : d.D i s with
    | none =>
      have e : findC (some d) i s = (zIt, if 0 < d.S i then 0x06090011 else 0x06020000) := by simp [findC, DD.at, hx]
      rw [e]
      exact find_no B g d i s hi hs w hd hx
    | some x =>
      have e : findC (some d) i s = (x, 0) := by simp [findC, DD.at, hx]
      rw [e]
      exact find_yes B g d i s x hi hs w hd hx
/-- The clone of a value that reads as bytes. -/
theorem clone_arg (A : Option Addr) (c : Nat) (a : List Int) (w : World) (h : ArgV w (.slice A a.length c) a) :
    Calls Tryd.prog 77 #[.slice A a.length c] w fun e w' => ∃ v, e = .returned v ∧ Kd.R kB 5 w' w.heap.size (fun _ => True) v a ∧ ArgV w' v a ∧ Below w.heap.size w w' := by
  obtain ⟨A', c', e, h1, h2⟩ := h
  injection e with e1 e2 e3
  subst e1 e3
  exact (clone_any A c a w h1.rd h2).mono fun e w' ⟨v, he, hR, hB⟩ => ⟨v, he, hR, ArgV.of_R hR h1.byt h2, hB⟩
/-- What Get tells. -/
def GetSaid (w : World) (r : It × Int) (e : Ending) (w' : World) : Prop := ∃ v, e = .returned (.tuple #[v, .bool (r.2 == 0)]) ∧ ArgV w' v r.1.val ∧ Below w.heap.size w w'
set_option maxRecDepth 100000 in
set_option maxHeartbeats 1000000 in
theorem get_any (B : Nat) (v : Value) (o : Option DD) (i s : Int) (hi : 0 ≤ i ∧ i < 65536) (hs : 0 ≤ s ∧ s < 256) (w : World) (h : DictV B w v o) :
    Calls Tryd.prog 25 #[v, pl i s] w (GetSaid w (findC o i s)) := by
  have hb0 : Below w.heap.size w (w.alloc (.cells #[.int .u16 i, .int .u8 s] 33)) := below_alloc (Below.refl _ _) _
  have HF := Aside0.mk (find_any B v o i s hi hs _ (h.below hb0))
  generalize findC o i s = r at HF ⊢
  obtain ⟨x, n⟩ := r
  clear h
  go_enter Tryd.func25, Tryd.ntmps25
  go_wp2_with (first
    | (go_at_call 76; refine HF.out.mono ?_; rintro e w1 ⟨v0, rfl, hv, hb⟩; have HV := Aside0.mk hv; have HB := Aside0.mk hb; clear hb HF; obtain ⟨v1, v2, v3, v4, rfl, ⟨A1, a1, rfl, -⟩, ⟨A2, a2, rfl, -⟩, ⟨A3, a3, rfl, -⟩, ⟨A4, a4, rfl, hq⟩⟩ := hv; have HQ := Aside0.mk hq; clear hq)
    | (go_at_call 77; refine (clone_arg _ _ _ _ (ArgV.below (w := w1) ⟨_, _, rfl, HQ.out⟩ (below_alloc (Below.refl _ _) _))).mono ?_; rintro e w2 ⟨v5, rfl, hR, hA, hb2⟩; have HR := Aside0.mk hR; have HA := Aside0.mk hA; have HB2 := Aside0.mk hb2; clear hR hA hb2))
  go_ret2
  exact ⟨v5, rfl, HA.out, hb0.trans ((HB.out.mono (by simp)).trans ((below_step (below_alloc (Below.refl _ _) _) HB2.out).mono (Nat.le_trans (by simp) HB.out.size)))⟩
/-- dict.first: what it tells is a row of the call's own. -/
def FstSaid (w : World) (e : En) (r : Ending) (w' : World) : Prop := ∃ v, r = .returned v ∧ ArgV w' v (firstC e) ∧ Below w.heap.size w w'
theorem byt_zero (n : Nat) : Byt (List.replicate n 0) := by
  intro x hx
  have := List.eq_of_mem_replicate hx
  omega
set_option maxRecDepth 100000 in
set_option maxHeartbeats 1000000 in
theorem first_any (x : En) (hx : x.Wf) (v : Value) (w : World) (h : EnV w v x) (ht : Tbl w) :
    Calls Tryd.prog 72 #[v] w (FstSaid w x) := by
  obtain ⟨v1, v2, v3, rfl, h1, ⟨A2, a2, rfl, h2⟩, ⟨A3, a3, rfl, h3⟩⟩ := h
  obtain ⟨A1, a1, rfl, h1'⟩ := h1
  have HQ := Aside0.mk h1'
  have HT := Aside0.mk ht
  have hs := siz_cases x.ty
  clear h1' ht
  by_cases hp : 0 < x.df.length
  · have hd1 : decide ((0 : Int) < (x.df.length : Int)) = true := by simpa using hp
    have hf : firstC x = x.df := by unfold firstC; rw [if_pos hp]
    go_enter Tryd.func72, Tryd.ntmps72
    go_wp2_with (go_at_call 77; refine (clone_arg _ _ _ _ (ArgV.below (w := w) ⟨_, _, rfl, HQ.out⟩ (below_alloc (Below.refl _ _) _))).mono ?_; rintro e w2 ⟨v5, rfl, hR, hA, hb2⟩; have HA := Aside0.mk hA; have HB2 := Aside0.mk hb2; clear hR hA hb2)
    go_ret
    exact ⟨v5, rfl, by rw [hf]; exact HA.out, below_step (below_alloc (Below.refl _ _) _) HB2.out⟩
  · have hd1 : decide ((0 : Int) < (x.df.length : Int)) = false := by simpa using hp
    have hf : firstC x = List.replicate (siz x.ty).toNat 0 := by unfold firstC; rw [if_neg hp]
    have hz := hx.ty
    go_enter Tryd.func72, Tryd.ntmps72
    go_wp2_with (go_at_call 111; refine (zero_any _ hz _ (HT.out.below (below_alloc (Below.refl _ _) _))).mono ?_; rintro e w2 ⟨v5, rfl, hR, hb2⟩; have HA := Aside0.mk (ArgV.of_R hR (byt_zero _) (by simp; omega)); have HB2 := Aside0.mk hb2; clear hR hb2)
    go_ret
    exact ⟨v5, rfl, by rw [hf]; exact HA.out, below_step (below_alloc (Below.refl _ _) _) HB2.out⟩
end Go.Proofs.YtokebpeplopjhaaDoor.Mp
namespace Go.Proofs.YtokebpeplopjhaaDoor.Mp
open Go.RowKit Go.Shelf Go.Proofs.YtokebpeplopjhaaDoor.Rng Go.Proofs.YtokebpeplopjhaaDoorW.PrintWords Go.Proofs.YtokebpeplopjhaaDoorW.PrintMore Go.Proofs.YtokebpeplopjhaaDoorW.PrintLast

theorem u8_two (r : Int) (h : 0 ≤ r ∧ r < 256) : bits .and .u8 r 2 = 2 * (r / 2 % 2) := by
  obtain ⟨n, rfl⟩ := Int.eq_ofNat_of_zero_le h.1
  have hn : n < 256 := by omega
  have all : ∀ j : Fin 256, bits .and .u8 ((j.val : Nat) : Int) 2 = 2 * (((j.val : Nat) : Int) / 2 % 2) := by decide +kernel
  exact all ⟨n, hn⟩
/-- Why a value can't be written; else the entry's tag. -/
def mayW (o : Option DD) (i s : Int) (b : List Int) : Int × Int :=
  if (findC o i s).2 ≠ 0 then (0, (findC o i s).2) else if (findC o i s).1.rt / 2 % 2 = 0 then (0, 0x06010002)
  else if chkC (findC o i s).1.ty b (findC o i s).1.lo (findC o i s).1.hi ≠ 0 then (0, chkC (findC o i s).1.ty b (findC o i s).1.lo (findC o i s).1.hi) else ((findC o i s).1.tag, 0)
/-- What May tells. -/
def MaySaid (w : World) (r : Int × Int) (e : Ending) (w' : World) : Prop := e = .returned (.tuple #[.int .u8 r.1, .int .u32 r.2]) ∧ Below w.heap.size w w'
set_option maxRecDepth 100000 in
set_option maxHeartbeats 1000000 in
theorem may_any (B : Nat) (v : Value) (o : Option DD) (i s : Int) (hi : 0 ≤ i ∧ i < 65536) (hs : 0 ≤ s ∧ s < 256) (A : Option Addr) (c : Nat) (b : List Int) (w : World) (h : DictV B w v o) (ht : Tbl w) (hb : Arg w A c b)
    (hwf : (findC o i s).1.Wf) :
    Calls Tryd.prog 26 #[v, pl i s, .slice A b.length c] w (MaySaid w (mayW o i s b)) := by
  have hb0 : Below w.heap.size w (w.alloc (.cells #[.int .u16 i, .int .u8 s] 33)) := below_alloc (Below.refl _ _) _
  have HF := Aside0.mk (find_any B v o i s hi hs _ (h.below hb0))
  have HT := Aside0.mk ht
  have HA := Aside0.mk hb
  obtain ⟨r, hr⟩ : ∃ r, mayW o i s b = r := ⟨_, rfl⟩
  rw [hr]
  unfold mayW at hr
  generalize findC o i s = q at HF hr hwf
  obtain ⟨x, n⟩ := q
  simp only at hr hwf
  have hty := hwf.ty
  have hrt := u8_two x.rt hwf.rt
  clear h ht hb
  by_cases hn : n = 0
  · subst hn
    rw [if_neg (by simp)] at hr
    by_cases h2 : x.rt / 2 % 2 = 0
    · rw [if_pos h2] at hr
      subst hr
      rw [h2] at hrt
      clear hwf h2
      go_enter Tryd.func26, Tryd.ntmps26
      go_wp2_with (go_at_call 76; refine HF.out.mono ?_; rintro e w1 ⟨v0, rfl, hv, hb⟩; have HB := Aside0.mk hb; clear hb HF; obtain ⟨v1, v2, v3, v4, rfl, ⟨A1, a1, rfl, -⟩, ⟨A2, a2, rfl, -⟩, ⟨A3, a3, rfl, -⟩, ⟨A4, a4, rfl, -⟩⟩ := hv)
      go_ret2
      exact ⟨rfl, hb0.trans ((HB.out.mono (by simp)).trans (below_alloc (Below.refl _ _) _ |>.mono (Nat.le_trans (by simp) HB.out.size)))⟩
    · have h2' : x.rt / 2 % 2 = 1 := by omega
      rw [if_neg h2] at hr
      rw [h2'] at hrt
      obtain ⟨q, hq⟩ : ∃ q, chkC x.ty b x.lo x.hi = q := ⟨_, rfl⟩
      simp only [hq] at hr
      by_cases hq0 : q = 0
      · subst hq0
        rw [if_neg (by simp)] at hr
        subst hr
        go_enter Tryd.func26, Tryd.ntmps26
        go_wp2_with (first
          | (go_at_call 76; refine HF.out.mono ?_; rintro e w1 ⟨v0, rfl, hv, hb⟩; have HB := Aside0.mk (hb0.trans (hb.mono (by simp))); clear hb HF; obtain ⟨v1, v2, v3, v4, rfl, ⟨A1, a1, rfl, -⟩, ⟨A2, a2, rfl, hL, -⟩, ⟨A3, a3, rfl, hH, -⟩, ⟨A4, a4, rfl, -⟩⟩ := hv; have HL := Aside0.mk hL; have HH := Aside0.mk hH; clear hL hH)
          | (go_at_call 78; refine (check_any x.ty hty A c b A2 a2 x.lo A3 a3 x.hi _ ((HT.out.below HB.out).below (below_alloc (Below.refl _ _) _)) ((HA.out.below HB.out).below (below_alloc (Below.refl _ _) _)) (HL.out.below (below_alloc (Below.refl _ _) _)) (HH.out.below (below_alloc (Below.refl _ _) _))).mono ?_; rw [hq]; rintro e w2 ⟨rfl, hb2⟩; have HB2 := Aside0.mk hb2; have hc8 := pw_cell_below hb2 (blk_cell (blk_new w1 _) 8); clear hb2))
        go_ret2
        exact ⟨rfl, HB.out.trans ((below_step (below_alloc (Below.refl _ _) _) HB2.out).mono HB.out.size)⟩
      · rw [if_pos hq0] at hr
        have q1 : (q == 0) = false := by simpa using hq0
        have q2 : (q != 0) = true := by simpa using hq0
        subst hr
        go_enter Tryd.func26, Tryd.ntmps26
        go_wp2_with (first
          | (go_at_call 76; refine HF.out.mono ?_; rintro e w1 ⟨v0, rfl, hv, hb⟩; have HB := Aside0.mk (hb0.trans (hb.mono (by simp))); clear hb HF; obtain ⟨v1, v2, v3, v4, rfl, ⟨A1, a1, rfl, -⟩, ⟨A2, a2, rfl, hL, -⟩, ⟨A3, a3, rfl, hH, -⟩, ⟨A4, a4, rfl, -⟩⟩ := hv; have HL := Aside0.mk hL; have HH := Aside0.mk hH; clear hL hH)
          | (go_at_call 78; refine (check_any x.ty hty A c b A2 a2 x.lo A3 a3 x.hi _ ((HT.out.below HB.out).below (below_alloc (Below.refl _ _) _)) ((HA.out.below HB.out).below (below_alloc (Below.refl _ _) _)) (HL.out.below (below_alloc (Below.refl _ _) _)) (HH.out.below (below_alloc (Below.refl _ _) _))).mono ?_; rw [hq]; rintro e w2 ⟨rfl, hb2⟩; have HB2 := Aside0.mk hb2; have hc8 := pw_cell_below hb2 (blk_cell (blk_new w1 _) 8); clear hb2))
        go_ret2
        exact ⟨rfl, HB.out.trans ((below_step (below_alloc (Below.refl _ _) _) HB2.out).mono HB.out.size)⟩
  · rw [if_pos hn] at hr
    have q1 : (n == 0) = false := by simpa using hn
    have q2 : (n != 0) = true := by simpa using hn
    subst hr
    go_enter Tryd.func26, Tryd.ntmps26
    go_wp2_with (go_at_call 76; refine HF.out.mono ?_; rintro e w1 ⟨v0, rfl, hv, hb⟩; have HB := Aside0.mk (hb0.trans (hb.mono (by simp))); clear hb HF; obtain ⟨v1, v2, v3, v4, rfl, ⟨A1, a1, rfl, -⟩, ⟨A2, a2, rfl, hL, -⟩, ⟨A3, a3, rfl, hH, -⟩, ⟨A4, a4, rfl, -⟩⟩ := hv; have HL := Aside0.mk hL; have HH := Aside0.mk hH; clear hL hH)
    go_ret2
    exact ⟨rfl, HB.out.trans ((below_alloc (Below.refl _ _) _).mono HB.out.size)⟩
end Go.Proofs.YtokebpeplopjhaaDoor.Mp
namespace Go.Proofs.YtokebpeplopjhaaDoor.Mp
open Go.RowKit Go.Shelf Go.Proofs.YtokebpeplopjhaaDoor.Rng Go.Proofs.YtokebpeplopjhaaDoorW.PrintWords Go.Proofs.YtokebpeplopjhaaDoorW.PrintMore Go.Proofs.YtokebpeplopjhaaDoorW.PrintLast

/-- A dictionary, its blocks named. -/
def DictB (B : Nat) (w : World) (g bi bs : Nat) (d : DD) : Prop := ∃ n m fi fs, DictAt B w g d bi bs n m fi fs
theorem DictB.dict {B : Nat} {w : World} {g bi bs : Nat} {d : DD} (h : DictB B w g bi bs d) : Dict B w g d := by
  obtain ⟨n, m, fi, fs, h⟩ := h
  exact ⟨bi, bs, n, m, fi, fs, h⟩
theorem DictB.below {B : Nat} {w w' : World} {g bi bs : Nat} {d : DD} (h : DictB B w g bi bs d) (hb : Below w.heap.size w w') : DictB B w' g bi bs d := by
  obtain ⟨n, m, fi, fs, h⟩ := h
  exact ⟨n, m, fi, fs, h.below hb⟩
/-- The blocks that a put turns hold no byte. -/
theorem DictAt.noByte {B : Nat} {w : World} {g : Nat} {d : DD} {bi bs n m : Nat} {fi fs : Value → Option Value} (h : DictAt B w g d bi bs n m fi fs) : NoByte w (fun k => k = g ∨ k = bi) := by
  intro p x hp hc
  have hb := h.blk
  obtain ⟨es, clock, he, _⟩ := h.items
  unfold World.cell? at hc
  rcases hp with e | e
  · rw [e, hb] at hc
    simp only at hc
    split at hc
    · cases hc
    · match p.off, hc with
      | 0, hc => simp at hc
      | 1, hc => simp at hc
      | 2, hc => simp at hc
      | k + 3, hc => simp at hc
  · rw [e, he] at hc
    cases hc
theorem pl_inj {i s i' s' : Int} (h : pl i s = pl i' s') : i = i' ∧ s = s' := by
  injection h with h
  injection h with h
  injection h with h1 h2
  injection h2 with h2 _
  injection h1 with _ h1
  injection h2 with _ h2
  exact ⟨h1, h2⟩
/-- A store into the map of items. -/
theorem DictAt.store {B : Nat} {w : World} {g : Nat} {d : DD} {bi bs n m : Nat} {fi fs : Value → Option Value} (h : DictAt B w g d bi bs n m fi fs) {i s : Int} (hi : 0 ≤ i ∧ i < 65536) (hs : 0 ≤ s ∧ s < 256) (v : Value) (x : It) (hv : ItV w v x) :
    ∃ o, (Instr.mapUpdate 122 (.map (some bi)) (pl i s) v).run Tryd.prog w = .ok () (ChangeMaps.setBlock w bi o) ∧
      ∃ f', DictAt B (ChangeMaps.setBlock w bi o) g ⟨fun i' s' => if i' = i ∧ s' = s then some x else d.D i' s', d.S, d.c⟩ bi bs (n + 1) m f' fs ∧ Fr (fun k => k = bi) w (ChangeMaps.setBlock w bi o) := by
  obtain ⟨kl, hk⟩ := key_pl hi hs
  obtain ⟨f', hf1, hf2⟩ : ∃ f' : Value → Option Value, f' (pl i s) = some v ∧ ∀ y, y ≠ pl i s → f' y = fi y := by
    classical
    exact ⟨fun y => if y = pl i s then some v else fi y, by simp, fun y hy => by simp [hy]⟩
  obtain ⟨o, h1, h2⟩ := h.items.put law_pl Tryd.underlying122 hk v hf1 hf2
  have hfr : Fr (fun k => k = bi) w (ChangeMaps.setBlock w bi o) := ⟨rfl, rfl, rfl, by simp [ChangeMaps.setBlock], fun k hk hm => by
    simp only [ChangeMaps.setBlock]
    rw [Array.getElem?_setIfInBounds_ne (fun e => hm e.symm)]⟩
  have hgb : g ≠ bi := by
    intro e
    have hb := h.blk
    obtain ⟨es, clock, he, _⟩ := h.items
    rw [e, he] at hb
    cases hb
  have hnb : NoByte w (fun k => k = bi) := fun p y hp => h.noByte p y (.inr hp)
  refine ⟨o, h1, f', ⟨?_, h.base, h2, ?_, ?_, ?_, h.count⟩, hfr⟩
  · exact (hfr.block g (blk_lt h.blk) hgb).trans h.blk
  · exact h.subs.block (hfr.block bs h.subs.lt (fun e => h.base.2.2.2 e.symm))
  · intro i' s' hi' hs' hd
    by_cases e : i' = i ∧ s' = s
    · simp [e] at hd
    · simp only [e, if_false] at hd
      rw [hf2 _ (fun e2 => e (pl_inj e2))]
      exact h.no i' s' hi' hs' hd
  · intro i' s' y hi' hs' hd
    by_cases e : i' = i ∧ s' = s
    · simp only [e, and_self, if_true, Option.some.injEq] at hd
      subst hd
      obtain ⟨rfl, rfl⟩ := e
      exact ⟨v, hf1, hv.fr hfr hnb⟩
    · simp only [e, if_false] at hd
      obtain ⟨u, hu1, hu2⟩ := h.yes i' s' y hi' hs' hd
      exact ⟨u, by rw [hf2 _ (fun e2 => e (pl_inj e2))]; exact hu1, hu2.fr hfr hnb⟩
/-- The count of changes. -/
theorem DictAt.count_ {B : Nat} {w : World} {g : Nat} {d : DD} {bi bs n m : Nat} {fi fs : Value → Option Value} (h : DictAt B w g d bi bs n m fi fs) (c : Int) :
    DictAt B (w.setCell ⟨g, 2, none⟩ (.int .i64 c)) g ⟨d.D, d.S, c⟩ bi bs n m fi fs ∧ Fr (fun k => k = g) w (w.setCell ⟨g, 2, none⟩ (.int .i64 c)) := by
  have hfr : Fr (fun k => k = g) w (w.setCell ⟨g, 2, none⟩ (.int .i64 c)) := Fr.setCell _ _ _ (.inl rfl)
  have hnb : NoByte w (fun k => k = g) := fun p y hp => h.noByte p y (.inl hp)
  have hgi : bi ≠ g := by
    intro e
    have hb := h.blk
    obtain ⟨es, clock, he, _⟩ := h.items
    rw [← e, he] at hb
    cases hb
  have hgs : bs ≠ g := by
    intro e
    have hb := h.blk
    obtain ⟨es, clock, he, _⟩ := h.subs
    rw [← e, he] at hb
    cases hb
  refine ⟨⟨blk_put h.blk 2 (.int .i64 c) rfl, h.base, h.items.block (hfr.block _ h.items.lt hgi), h.subs.block (hfr.block _ h.subs.lt hgs), h.no, fun i s x hi hs hx => ?_, h.count⟩, hfr⟩
  obtain ⟨v, h1, h2⟩ := h.yes i s x hi hs hx
  exact ⟨v, h1, h2.fr hfr hnb⟩
theorem R_off {w : World} {e base k : Nat} {ok : Nat → Prop} {A : Option Addr} {n c : Nat} {a : List Int} (h : Kd.R kB e w base ok (.slice A n c) a) (hk : k < base) : Off (fun j => j = k) A a.length := by
  intro ad hA hn hj
  obtain ⟨g, cap, hv, hg, _, _⟩ := Kd.R_form h hn
  injection hv with h1 _ _
  rw [hA] at h1
  injection h1 with h1
  rw [h1] at hj
  simp only at hj
  omega
/-- What put leaves. -/
def PutSaid (B : Nat) (w : World) (g bi bs : Nat) (d : DD) (e : Ending) (w' : World) : Prop := e = .returned (.tuple #[]) ∧ DictB B w' g bi bs d ∧ Fr (fun k => k = g ∨ k = bi) w w'
set_option maxRecDepth 100000 in
set_option maxHeartbeats 2000000 in
theorem put_any (B g bi bs : Nat) (d : DD) (x : It) (hx : x.Wf) (v : Value) (A : Option Addr) (c : Nat) (b : List Int) (w : World) (h : DictB B w g bi bs d) (hv : ItV w v x) (hb : ArgV w (.slice A b.length c) b) :
    Calls Tryd.prog 73 #[.pointer (some ⟨g, 0, none⟩), v, .slice A b.length c] w (PutSaid B w g bi bs (d.put x b)) := by
  obtain ⟨n, m, fi, fs, h⟩ := h
  obtain ⟨v1, v2, v3, v4, rfl, ⟨A1, a1, rfl, h1⟩, ⟨A2, a2, rfl, h2⟩, ⟨A3, a3, rfl, h3⟩, ⟨A4, a4, rfl, h4⟩⟩ := hv
  have HC := Aside0.mk fun W (hW : Below w.heap.size w W) => clone_arg A c b W (hb.below hW)
  have HD := Aside0.mk h
  have HI := Aside0.mk (And.intro h1 (And.intro h2 h3))
  have hix := hx.ix
  have hsub := hx.sub
  clear hb h h1 h2 h3 h4
  go_enter Tryd.func73, Tryd.ntmps73
  go_wp2_with (go_at_call 77; refine (HC.out _ (below_alloc (Below.refl _ _) _)).mono ?_; rintro e w1 ⟨v5, rfl, hR, hA, hb⟩; have HA := Aside0.mk hA; obtain ⟨A5, a5, rfl, -⟩ := hA; have hrow := blk_below (blk_new w (.cells #[.int .u16 x.ix, .int .u8 x.sub, .string x.name, .int .u8 x.ty, .int .u8 x.rt, .slice A1 x.df.length a1, .slice A2 x.lo.length a2, .slice A3 x.hi.length a3, .int .u8 x.tag, .int .u8 x.grp, .slice A4 x.val.length a4] 128)) hb; have HROW := Aside0.mk hrow; obtain ⟨c0, c1, c2, c3, c4, c5, c6, c7, c8, c9, c10, cf⟩ := held11 hrow; have HB := Aside0.mk (below_step (below_alloc (Below.refl w.heap.size w) _) hb); have HOF := Aside0.mk (R_off (k := w.heap.size) hR (by simp)); clear hR hb hrow)
  obtain ⟨W2, hW2⟩ : ∃ W2, w1.setCell ⟨w.heap.size, 10, none⟩ (.slice A5 b.length a5) = W2 := ⟨_, rfl⟩
  have hb2 : Below w.heap.size w W2 := hW2 ▸ HB.out.setCell (p := ⟨w.heap.size, 10, none⟩) (Nat.le_refl _) _
  have f2 : Fr (fun k => k = w.heap.size) w1 W2 := hW2 ▸ Fr.setCell _ _ _ (.inl rfl)
  have hrow2 := blk_put HROW.out 10 (.slice A5 b.length a5) rfl
  simp only [List.setIfInBounds_toArray, List.set_cons_succ, List.set_cons_zero] at hrow2
  rw [hW2] at hrow2 ⊢
  have hA5 : ArgV W2 (.slice A5 b.length a5) b := by
    obtain ⟨A', c', e, q1, q2⟩ := HA.out
    injection e with e1 e2 e3
    subst e1 e3
    exact ⟨A5, a5, rfl, ⟨q1.rd.fr f2 HOF.out, q1.byt, q1.le, q1.cap⟩, q2⟩
  have hI2 : ∀ {A a l}, (Arg w A a l ∧ l.length ≤ 140737488355328) → ArgV W2 (.slice A l.length a) l := fun h => ArgV.below (w := w) ⟨_, _, rfl, h⟩ hb2
  have hit : ItV W2.drew (.agg #[.int .u16 x.ix, .int .u8 x.sub, .string x.name, .int .u8 x.ty, .int .u8 x.rt, .slice A1 x.df.length a1, .slice A2 x.lo.length a2, .slice A3 x.hi.length a3, .int .u8 x.tag, .int .u8 x.grp, .slice A5 b.length a5]) { x with val := b } :=
    ItV.below (w := W2) ⟨_, _, _, _, rfl, hI2 HI.out.1, hI2 HI.out.2.1, hI2 HI.out.2.2, hA5⟩ (Below.refl _ _).drew
  obtain ⟨o, hrun, f', hD3, hF3⟩ := ((HD.out.below hb2).below (Below.refl W2.heap.size W2).drew).store hix hsub _ _ hit
  have hF4 : Fr (fun k => k = bi) W2 (ChangeMaps.setBlock W2.drew bi o) := (Fr.drew _ _).trans hF3
  have hblk3 := hD3.blk
  generalize ChangeMaps.setBlock W2.drew bi o = W3 at hrun hD3 hF4 hblk3
  have hbi : bi < w.heap.size := HD.out.items.lt
  have hg : g < w.heap.size := blk_lt HD.out.blk
  have hgb : g ≠ bi := by
    intro e
    have hb := HD.out.blk
    obtain ⟨es, clock, he, _⟩ := HD.out.items
    rw [e, he] at hb
    cases hb
  have hg2 := (HD.out.below hb2).blk
  have cg : ∀ X, Fr (fun k => k = bi) W2 X → X.cell? ⟨g, 0, none⟩ = some (.map (some bi)) := fun X hX => hX.cell (blk_cell hg2 0) hgb
  have K : ∀ X, Fr (fun k => k = bi) W2 X → X.heap[w.heap.size]? = _ := fun X hX => (hX.block _ (blk_lt hrow2) (by omega)).trans hrow2
  have d0 := fun X hX => (held11 (K X hX)).1
  have d1 := fun X hX => (held11 (K X hX)).2.1
  have d2 := fun X hX => (held11 (K X hX)).2.2.1
  have d3 := fun X hX => (held11 (K X hX)).2.2.2.1
  have d4 := fun X hX => (held11 (K X hX)).2.2.2.2.1
  have d5 := fun X hX => (held11 (K X hX)).2.2.2.2.2.1
  have d6 := fun X hX => (held11 (K X hX)).2.2.2.2.2.2.1
  have d7 := fun X hX => (held11 (K X hX)).2.2.2.2.2.2.2.1
  have d8 := fun X hX => (held11 (K X hX)).2.2.2.2.2.2.2.2.1
  have d9 := fun X hX => (held11 (K X hX)).2.2.2.2.2.2.2.2.2.1
  have d10 := fun X hX => (held11 (K X hX)).2.2.2.2.2.2.2.2.2.2.1
  have hS0 : Fr (fun k => k = bi) W2 W2.drew := Fr.drew _ _
  have HF4 := Aside0.mk hF4
  have HD3 := Aside0.mk hD3
  have HF2 := Aside0.mk (Fr.of_below (M := fun k => k = g ∨ k = bi) hb2)
  have HGB := Aside0.mk hgb
  clear hW2 hb2 f2 hrow2 hA5 hI2 hit hD3 hF3 hbi hg hgb hg2 K c0 c1 c2 c3 c4 c5 c6 c7 c8 c9 c10 cf hix hsub
  go_region_held3 (fun X => Fr (fun k => k = bi) W2 X) (first | assumption | exact HF4.out)
    (fail)
  have e2 := blk_cell hblk3 2
  have ef := fun j => blk_frozen hblk3 j
  clear d0 d1 d2 d3 d4 d5 d6 d7 d8 d9 d10 cg hrun hS0
  simp at e2
  go_wp2
  go_end0
  obtain ⟨q1, q2⟩ := HD3.out.count_ (wrap64 (d.c + 1))
  have ew : wrap64 (d.c + 1) = IntKind.i64.wrap (d.c + 1) := (i64_w _).symm
  have ed : d.put x b = ⟨fun i' s' => if i' = x.ix ∧ s' = x.sub then some { x with val := b } else d.D i' s', d.S, wrap64 (d.c + 1)⟩ := by rw [ew]; rfl
  rw [ed]
  exact ⟨rfl, ⟨_, _, _, _, q1⟩, (HF2.out.trans (HF4.out.mono (fun k hk => .inr hk))).trans (q2.mono (fun k hk => Or.inl hk))⟩
end Go.Proofs.YtokebpeplopjhaaDoor.Mp
namespace Go.Proofs.YtokebpeplopjhaaDoor.Mp
open Go.RowKit Go.Shelf Go.Proofs.YtokebpeplopjhaaDoor.Rng Go.Proofs.YtokebpeplopjhaaDoorW.PrintWords Go.Proofs.YtokebpeplopjhaaDoorW.PrintMore Go.Proofs.YtokebpeplopjhaaDoorW.PrintLast

/-- What holds of every item: its place, and its entry. -/
structure Good (d : DD) : Prop where
  it : ∀ i s x, d.D i s = some x → x.Wf ∧ x.ix = i ∧ x.sub = s ∧ plainC x.ty x.val = 0 ∧ Byt x.val
theorem Good.find {d : DD} (h : Good d) (i s : Int) : (findC (some d) i s).1.Wf := by
  unfold findC DD.at
  simp only
  split
  · exact (h.it i s _ (by assumption)).1
  · exact zEn_wf
/-- What Write leaves. -/
def WrtSaid (B : Nat) (w : World) (g bi bs : Nat) (r : Int) (d : DD) (e : Ending) (w' : World) : Prop := e = .returned (.int .u32 r) ∧ DictB B w' g bi bs d ∧ Fr (fun k => k = g ∨ k = bi) w w'
theorem mayW_0 {d : DD} {i s : Int} {b : List Int} (h : (mayW (some d) i s b).2 = 0) : ∃ x, d.D i s = some x ∧ x.rt / 2 % 2 ≠ 0 ∧ chkC x.ty b x.lo x.hi = 0 ∧ mayW (some d) i s b = (x.tag, 0) := by
  unfold mayW at h ⊢
  cases hd : d.D i s with
  | none =>
    have e : findC (some d) i s = (zIt, if 0 < d.S i then 0x06090011 else 0x06020000) := by simp [findC, DD.at, hd]
    rw [e] at h
    simp only at h
    have h1 : (if 0 < d.S i then (0x06090011 : Int) else 0x06020000) ≠ 0 := by split <;> decide
    rw [if_pos h1] at h
    exact absurd h h1
  | some x =>
    have e : findC (some d) i s = (x, 0) := by simp [findC, DD.at, hd]
    rw [e] at h ⊢
    simp only at h ⊢
    rw [if_neg (by simp)] at h ⊢
    by_cases h2 : x.rt / 2 % 2 = 0
    · rw [if_pos h2] at h
      exact absurd h (by decide)
    · rw [if_neg h2] at h ⊢
      by_cases h3 : chkC x.ty b x.lo x.hi = 0
      · rw [if_neg (by simp [h3])]
        exact ⟨x, rfl, h2, h3, rfl⟩
      · rw [if_pos h3] at h
        exact absurd h h3
set_option maxRecDepth 100000 in
set_option maxHeartbeats 1000000 in
theorem write_no (B g bi bs : Nat) (d : DD) (hd : Good d) (i s : Int) (hi : 0 ≤ i ∧ i < 65536) (hs : 0 ≤ s ∧ s < 256) (A : Option Addr) (c : Nat) (b : List Int) (w : World) (h : DictB B w g bi bs d) (ht : Tbl w) (hb : Arg w A c b)
    (hno : (mayW (some d) i s b).2 ≠ 0) : Calls Tryd.prog 20 #[.pointer (some ⟨g, 0, none⟩), pl i s, .slice A b.length c] w fun e w' => e = .returned (.int .u32 (mayW (some d) i s b).2) ∧ Below w.heap.size w w' := by
  have hb0 : Below w.heap.size w (w.alloc (.cells #[.int .u16 i, .int .u8 s] 33)) := below_alloc (Below.refl _ _) _
  have HM := Aside0.mk (may_any B (.pointer (some ⟨g, 0, none⟩)) (some d) i s hi hs A c b _ ⟨g, rfl, h.dict.below hb0⟩ (ht.below hb0) (hb.below hb0) (hd.find i s))
  obtain ⟨⟨r1, r2⟩, hr⟩ : ∃ r, mayW (some d) i s b = r := ⟨_, rfl⟩
  rw [hr] at HM hno ⊢
  simp only at hno ⊢
  have q1 : (r2 == 0) = false := by simpa using hno
  have q2 : (r2 != 0) = true := by simpa using hno
  clear hr h ht hb hno
  go_enter Tryd.func20, Tryd.ntmps20
  go_wp2_with (go_at_call 26; refine HM.out.mono ?_; rintro e w1 ⟨rfl, hb⟩; have HB := Aside0.mk (hb0.trans (hb.mono (by simp))); clear hb)
  go_ret
  exact ⟨rfl, HB.out⟩
set_option maxRecDepth 100000 in
set_option maxHeartbeats 1000000 in
theorem write_yes (B g bi bs : Nat) (d : DD) (hd : Good d) (i s : Int) (x : It) (hx : d.D i s = some x) (hi : 0 ≤ i ∧ i < 65536) (hs : 0 ≤ s ∧ s < 256) (A : Option Addr) (c : Nat) (b : List Int) (w : World) (h : DictB B w g bi bs d) (ht : Tbl w) (hb : ArgV w (.slice A b.length c) b) (hb' : Arg w A c b)
    (hno : mayW (some d) i s b = (x.tag, 0)) : Calls Tryd.prog 20 #[.pointer (some ⟨g, 0, none⟩), pl i s, .slice A b.length c] w (WrtSaid B w g bi bs 0 (d.put x b)) := by
  have hb0 : Below w.heap.size w (w.alloc (.cells #[.int .u16 i, .int .u8 s] 33)) := below_alloc (Below.refl _ _) _
  have HM := Aside0.mk (may_any B (.pointer (some ⟨g, 0, none⟩)) (some d) i s hi hs A c b _ ⟨g, rfl, h.dict.below hb0⟩ (ht.below hb0) (hb'.below hb0) (hd.find i s))
  rw [hno] at HM
  have HD := Aside0.mk h
  have HBV := Aside0.mk hb
  have hpl := blk_new w (.cells #[.int .u16 i, .int .u8 s] 33)
  have HPL := Aside0.mk hpl
  have hwf := (hd.it i s x hx).1
  clear h ht hb hb' hno hpl
  go_enter Tryd.func20, Tryd.ntmps20
  go_wp2_with (go_at_call 26; refine HM.out.mono ?_; rintro e w1 ⟨rfl, hb⟩; have HB := Aside0.mk (hb0.trans (hb.mono (by simp))); have hpl1 := blk_below HPL.out hb; clear hb)
  have hb1 : Below w.heap.size w w1.drew := HB.out.drew
  have hd1 : DictB B w1.drew g bi bs d := HD.out.below hb1
  have HD1 := Aside0.mk hd1
  obtain ⟨n, m, fi, fs, hda⟩ := hd1
  obtain ⟨v, hv, hl⟩ := hda.look hi hs
  rw [hx] at hv hl
  simp only [Option.getD_some, Option.isSome_some] at hv hl
  have hl1 : (Instr.lookup 122 (.map (some bi)) (pl i s) false).run Tryd.prog w1.drew = .ok v w1.drew := hl false _ (Below.refl _ _)
  have HV := Aside0.mk hv
  have hg0 : w1.cell? ⟨g, 0, none⟩ = some (.map (some bi)) := blk_cell hda.blk 0
  have hp0 := blk_cell hpl1 0
  have hp1 := blk_cell hpl1 1
  have hgw : w.heap.size ≠ g := fun e => by have := blk_lt (HD.out.choose_spec.choose_spec.choose_spec.choose_spec).blk; omega
  have hiw : w.heap.size ≠ bi := fun e => by have := (HD.out.choose_spec.choose_spec.choose_spec.choose_spec).items.lt; omega
  have z0 : ∀ X, Fr (fun k => k = g ∨ k = bi) w1.drew X → X.cell? ⟨w.heap.size, 0, none⟩ = some (.int .u16 i) := fun X hX => hX.cell hp0 (by rintro (e | e); exact hgw e; exact hiw e)
  have z1 : ∀ X, Fr (fun k => k = g ∨ k = bi) w1.drew X → X.cell? ⟨w.heap.size, 1, none⟩ = some (.int .u8 s) := fun X hX => hX.cell hp1 (by rintro (e | e); exact hgw e; exact hiw e)
  have hS0 : Fr (fun k => k = g ∨ k = bi) w1.drew w1.drew ∧ w1.drew.cell? ⟨g, 0, none⟩ = some (.map (some bi)) := ⟨Fr.refl _ _, hg0⟩
  have HBV1 := Aside0.mk (HBV.out.below hb1)
  have HF1 := Aside0.mk (Fr.of_below (M := fun k => k = g ∨ k = bi) hb1)
  clear hb1 hda hv hl hg0 hp0 hp1 hgw hiw hpl1
  go_region_held3 (fun X => Fr (fun k => k = g ∨ k = bi) w1.drew X ∧ X.cell? ⟨g, 0, none⟩ = some (.map (some bi))) (first | assumption | exact hS0)
    ((go_at_call 73; refine (put_any B g bi bs d x hwf v A c b _ HD1.out HV.out HBV1.out).mono ?_; rintro e w2 ⟨rfl, hd2, hf2⟩; have HD2 := Aside0.mk hd2; have hS2 : Fr (fun k => k = g ∨ k = bi) w1.drew w2 ∧ w2.cell? ⟨g, 0, none⟩ = some (.map (some bi)) := ⟨hf2, blk_cell (hd2.choose_spec.choose_spec.choose_spec.choose_spec).blk 0⟩; have HF2 := Aside0.mk hf2; clear hd2 hf2))
  go_wp2
  go_ret
  exact ⟨rfl, HD2.out, HF1.out.trans HF2.out⟩
/-- What a dictionary is behind a Write. -/
def wrtC (d : DD) (i s : Int) (b : List Int) : DD := if (mayW (some d) i s b).2 = 0 then d.put ((d.D i s).getD zIt) b else d
theorem write_any (B g bi bs : Nat) (d : DD) (hd : Good d) (i s : Int) (hi : 0 ≤ i ∧ i < 65536) (hs : 0 ≤ s ∧ s < 256) (A : Option Addr) (c : Nat) (b : List Int) (w : World) (h : DictB B w g bi bs d) (ht : Tbl w) (hb : ArgV w (.slice A b.length c) b) :
    Calls Tryd.prog 20 #[.pointer (some ⟨g, 0, none⟩), pl i s, .slice A b.length c] w (WrtSaid B w g bi bs (mayW (some d) i s b).2 (wrtC d i s b)) := by
  have hb' : Arg w A c b := by
    obtain ⟨A', c', e, q1, q2⟩ := hb
    injection e with e1 e2 e3
    subst e1 e3
    exact q1
  unfold wrtC
  by_cases h0 : (mayW (some d) i s b).2 = 0
  · obtain ⟨x, hx, _, _, hm⟩ := mayW_0 h0
    rw [if_pos h0, h0, hx]
    exact write_yes B g bi bs d hd i s x hx hi hs A c b w h ht hb hb' hm
  · rw [if_neg h0]
    exact (write_no B g bi bs d hd i s hi hs A c b w h ht hb' h0).mono fun e w' ⟨he, hB⟩ => ⟨he, h.below hB, Fr.of_below hB⟩
/-- Good stays good behind a Write. -/
theorem Good.wrt {d : DD} (hd : Good d) (i s : Int) (b : List Int) (hb : Byt b) (hc : ∀ x, d.D i s = some x → chkC x.ty b x.lo x.hi = 0 → plainC x.ty b = 0) : Good (wrtC d i s b) := by
  unfold wrtC
  by_cases h0 : (mayW (some d) i s b).2 = 0
  · obtain ⟨x, hx, _, hk, _⟩ := mayW_0 h0
    rw [if_pos h0, hx]
    obtain ⟨h1, h2, h3, h4, h5⟩ := hd.it i s x hx
    refine ⟨fun i' s' y hy => ?_⟩
    simp only [DD.put, Option.getD_some] at hy
    by_cases e : i' = x.ix ∧ s' = x.sub
    · rw [if_pos e] at hy
      injection hy with hy
      subst hy
      exact ⟨h1, e.1.symm, e.2.symm, hc x hx hk, hb⟩
    · rw [if_neg e] at hy
      exact hd.it i' s' y hy
  · rw [if_neg h0]
    exact hd
end Go.Proofs.YtokebpeplopjhaaDoor.Mp
