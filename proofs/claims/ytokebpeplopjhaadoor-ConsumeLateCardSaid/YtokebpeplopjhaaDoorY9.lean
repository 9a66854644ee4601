/- mapping: Of, Number, fits, gap. dict.Find; mapping's check of one Map. mapping.Size; rows of Maps. mapping.Check. mapping.bits: the row of bits that its iterator gives. mapping.Unpack's take: a value out of bits. -/
import Derived.Test.YtokebpeplopjhaaDoorY7
import Derived.Test.YtokebpeplopjhaaDoorY8
import Derived.RangeFuncNested
import Derived.RangeFuncBound
import Derived.RangeFuncCalls
import Derived.RangeFuncBox
import Derived.Laws.BitsAllLaws
import Derived.Test.YtokebpeplopjhaaDoorY2
namespace Go.Proofs.YtokebpeplopjhaaDoor.Mp
open Go.RowKit Go.Shelf Go.Proofs.YtokebpeplopjhaaDoor.Rng Go.Proofs.YtokebpeplopjhaaDoorW.PrintWords Go.Proofs.YtokebpeplopjhaaDoorW.PrintMore Go.Proofs.YtokebpeplopjhaaDoorW.PrintLast

/-- A Map as a value. -/
abbrev mpV (i s b : Int) : Value := .agg #[.int .u16 i, .int .u8 s, .int .i64 b]
set_option maxRecDepth 100000 in
set_option maxHeartbeats 1000000 in
theorem fits_any (i s b t : Int) (ht : 0 ≤ t ∧ t < 256) (w : World) (h : Tbl w) :
    Calls Tryd.prog 113 #[mpV i s b, .int .u8 t] w fun e w' => e = .returned (.bool (decide (fitsC t b))) ∧ Below w.heap.size w w' := by
  have hb0 : Below w.heap.size w (w.alloc (.cells #[.int .u16 i, .int .u8 s, .int .i64 b] 48)) := below_alloc (Below.refl _ _) _
  have HZ := Aside0.mk (size_any t ht _ (h.below hb0))
  have hsz := siz_cases t
  have hbl := blk_new w (.cells #[.int .u16 i, .int .u8 s, .int .i64 b] 48)
  have HBL := Aside0.mk hbl
  clear hbl h
  have hr : ∀ r : Bool, (r = true ↔ fitsC t b) → decide (fitsC t b) = r := by
    intro r h
    by_cases hf : fitsC t b
    · rw [decide_eq_true hf, h.2 hf]
    · rw [decide_eq_false hf]
      cases r
      · rfl
      · exact absurd (h.1 rfl) hf
  by_cases hz : 0 < siz t
  · rw [decide_eq_true hz] at HZ
    have hf : fitsC t b ↔ (b = 8 * siz t ∨ (t = 1 ∧ b = 1)) := by unfold fitsC; simp [hz]
    replace hr := fun (r : Bool) (h : r = true ↔ (b = 8 * siz t ∨ (t = 1 ∧ b = 1))) => hr r (h.trans hf.symm)
    clear hf
    obtain ⟨z, hze⟩ : ∃ z, siz t = z := ⟨_, rfl⟩
    simp only [hze] at HZ hr hz hsz
    clear hze
    by_cases h1 : b = 8 * z
    · rw [hr true (by simp [h1])]
      subst h1
      go_enter Tryd.func113, Tryd.ntmps113
      go_wp2_with (go_at_call 129; refine HZ.out.mono ?_; rintro e w1 ⟨rfl, hb⟩; have HB := Aside0.mk hb; have hc2 := pw_cell_below hb (blk_cell HBL.out 2); clear hb)
      go_ret
      exact ⟨rfl, hb0.trans (HB.out.mono (by simp))⟩
    have h1b : (b == 8 * z) = false := by simpa using h1
    by_cases h2 : t = 1
    · subst h2
      by_cases h3 : b = 1
      · rw [hr true (by simp [h3])]
        subst h3
        go_enter Tryd.func113, Tryd.ntmps113
        go_wp2_with (go_at_call 129; refine HZ.out.mono ?_; rintro e w1 ⟨rfl, hb⟩; have HB := Aside0.mk hb; have hc2 := pw_cell_below hb (blk_cell HBL.out 2); clear hb)
        go_ret
        exact ⟨rfl, hb0.trans (HB.out.mono (by simp))⟩
      · rw [hr false (by simp [h1, h3])]
        have h3b : (b == 1) = false := by simpa using h3
        go_enter Tryd.func113, Tryd.ntmps113
        go_wp2_with (go_at_call 129; refine HZ.out.mono ?_; rintro e w1 ⟨rfl, hb⟩; have HB := Aside0.mk hb; have hc2 := pw_cell_below hb (blk_cell HBL.out 2); clear hb)
        go_ret
        exact ⟨rfl, hb0.trans (HB.out.mono (by simp))⟩
    · rw [hr false (by simp [h1, h2])]
      have h2b : (t == 1) = false := by simpa using h2
      go_enter Tryd.func113, Tryd.ntmps113
      go_wp2_with (go_at_call 129; refine HZ.out.mono ?_; rintro e w1 ⟨rfl, hb⟩; have HB := Aside0.mk hb; have hc2 := pw_cell_below hb (blk_cell HBL.out 2); clear hb)
      go_ret
      exact ⟨rfl, hb0.trans (HB.out.mono (by simp))⟩
  · rw [decide_eq_false hz] at HZ
    rw [hr false (by unfold fitsC; simp [hz])]
    go_enter Tryd.func113, Tryd.ntmps113
    go_wp2_with (go_at_call 129; refine HZ.out.mono ?_; rintro e w1 ⟨rfl, hb⟩; have HB := Aside0.mk hb; have hc2 := pw_cell_below hb (blk_cell HBL.out 2); clear hb)
    go_ret
    exact ⟨rfl, hb0.trans (HB.out.mono (by simp))⟩
/-- Of a Map's four answers: is it a gap? -/
theorem gap_iff (i s b : Int) : gapC ⟨i, s, b⟩ ↔ i < 256 ∧ s = 0 ∧ fitsC i b := Iff.rfl
set_option maxRecDepth 100000 in
set_option maxHeartbeats 1000000 in
theorem gap_any (i s b : Int) (hi : 0 ≤ i ∧ i < 65536) (w : World) (h : Tbl w) :
    Calls Tryd.prog 80 #[mpV i s b] w fun e w' => e = .returned (.bool (decide (gapC ⟨i, s, b⟩))) ∧ Below w.heap.size w w' := by
  have hb0 : Below w.heap.size w ((w.alloc (.cells #[.int .u16 i, .int .u8 s, .int .i64 b] 48)).alloc (.cells #[.int .u16 i, .int .u8 s] 33)) := (below_alloc (Below.refl _ _) _).alloc (by simp) _
  have HT := Aside0.mk (h.below hb0)
  clear h
  by_cases h1 : i < 256
  · by_cases h2 : s = 0
    · subst h2
      have HF := Aside0.mk (fits_any i 0 b i ⟨hi.1, h1⟩ _ HT.out)
      have e : decide (gapC ⟨i, 0, b⟩) = decide (fitsC i b) := by
        congr 1
        simp [gap_iff, h1]
      rw [e]
      generalize decide (fitsC i b) = r at HF ⊢
      go_enter Tryd.func80, Tryd.ntmps80
      go_wp2_with (go_at_call 113; refine HF.out.mono ?_; rintro e w1 ⟨rfl, hb⟩; have HB := Aside0.mk hb; clear hb)
      go_ret
      exact ⟨rfl, hb0.trans (HB.out.mono hb0.size)⟩
    · have h2b : (s == 0) = false := by simpa using h2
      rw [decide_eq_false (fun e => h2 e.2.1)]
      go_enter Tryd.func80, Tryd.ntmps80
      go_wp2
      go_ret
      exact ⟨rfl, hb0⟩
  · rw [decide_eq_false (fun e => h1 e.1)]
    have h1b : decide (i < 256) = false := by simpa using h1
    go_enter Tryd.func80, Tryd.ntmps80
    go_wp2
    go_ret
    exact ⟨rfl, hb0⟩
end Go.Proofs.YtokebpeplopjhaaDoor.Mp
namespace Go.Proofs.YtokebpeplopjhaaDoor.Mp
open Go.RowKit Go.Shelf Go.Proofs.YtokebpeplopjhaaDoor.Rng Go.Proofs.YtokebpeplopjhaaDoorW.PrintWords Go.Proofs.YtokebpeplopjhaaDoorW.PrintMore Go.Proofs.YtokebpeplopjhaaDoorW.PrintLast

def FddSaid (w : World) (r : It × Int) (e : Ending) (w' : World) : Prop := ∃ v, e = .returned (.tuple #[v, .int .u32 r.2]) ∧ EnV w' v r.1.toEn ∧ Below w.heap.size w w'
theorem fdd_end {tmps : Array Value} {W : World} {b : Nat} {cs : Array Value} {t : TypeId} {n : Int} (h4 : tmps.getD 4 undef = .pointer (some ⟨b, 0, none⟩)) (h5 : tmps.getD 5 undef = .int .u32 n) (hb : W.heap[b]? = some (.cells cs t (0, 0))) (hs : cs.size = 10) :
    (results Tryd.f112 tmps).run Tryd.prog W = .ok (.tuple #[.agg cs, .int .u32 n]) W := by
  rw [← h5]
  exact results_ct rfl tmps W b t cs (0, 0) _ h4 hb Tryd.underlying121 rfl (by rw [info_en, hs])
set_option maxRecDepth 100000 in
set_option maxHeartbeats 2000000 in
theorem fdd_any (B : Nat) (v : Value) (o : Option DD) (i s : Int) (hi : 0 ≤ i ∧ i < 65536) (hs : 0 ≤ s ∧ s < 256) (w : World) (h : DictV B w v o) :
    Calls Tryd.prog 112 #[v, pl i s] w (FddSaid w (findC o i s)) := by
  obtain ⟨W0, hW0⟩ : ∃ W0, ((w.alloc (.cells #[.int .u16 i, .int .u8 s] 33)).alloc (.cells #[.int .u16 0, .int .u8 0, .string { data := #[] }, .int .u8 0, .int .u8 0, .slice none 0 0, .slice none 0 0, .slice none 0 0, .int .u8 0, .int .u8 0] 121)) = W0 := ⟨_, rfl⟩
  have hb0 : Below w.heap.size w W0 := hW0 ▸ (below_alloc (Below.refl _ _) _).alloc (by simp) _
  have hr0 : W0.heap[w.heap.size + 1]? = some (.cells #[.int .u16 0, .int .u8 0, .string { data := #[] }, .int .u8 0, .int .u8 0, .slice none 0 0, .slice none 0 0, .slice none 0 0, .int .u8 0, .int .u8 0] 121 (0, 0)) := by
    have := blk_new (w.alloc (.cells #[.int .u16 i, .int .u8 s] 33)) (.cells #[.int .u16 0, .int .u8 0, .string { data := #[] }, .int .u8 0, .int .u8 0, .slice none 0 0, .slice none 0 0, .slice none 0 0, .int .u8 0, .int .u8 0] 121)
    rw [World.size_alloc, hW0] at this
    exact this
  have hc0 : W0.cell? ⟨w.heap.size, 0, none⟩ = some (.int .u16 i) := by
    rw [← hW0]
    exact blk_cell (blk_alloc (blk_new w _) _) 0
  have hc1 : W0.cell? ⟨w.heap.size, 1, none⟩ = some (.int .u8 s) := by
    rw [← hW0]
    exact blk_cell (blk_alloc (blk_new w _) _) 1
  have HF := Aside0.mk (find_any B v o i s hi hs W0 (h.below hb0))
  generalize findC o i s = r at HF ⊢
  obtain ⟨x, n⟩ := r
  have HB0 := Aside0.mk hb0
  have HR0 := Aside0.mk hr0
  clear h hb0 hr0
  go_enter Tryd.func112, Tryd.ntmps112
  go_wp2_with (first
    | (go_at_call 76; refine HF.out.mono ?_; rintro e w1 ⟨v0, rfl, hv, hb⟩; have HV := Aside0.mk hv; have HB := Aside0.mk hb; clear hb HF; obtain ⟨v1, v2, v3, v4, rfl, ⟨A1, a1, rfl, q1⟩, ⟨A2, a2, rfl, q2⟩, ⟨A3, a3, rfl, q3⟩, ⟨A4, a4, rfl, -⟩⟩ := hv; have HQ := Aside0.mk (And.intro q1 (And.intro q2 q3)); clear q1 q2 q3)
    | (go_at_call 71; refine (lend_any x.toEn _ _ (EnV.below (w := w1) ⟨_, _, _, rfl, ⟨_, _, rfl, HQ.out.1⟩, ⟨_, _, rfl, HQ.out.2.1⟩, ⟨_, _, rfl, HQ.out.2.2⟩⟩ (below_alloc (Below.refl _ _) _))).mono ?_; rintro e w2 ⟨v5, rfl, hv5, hb2, hO⟩; obtain ⟨_, _, _, rfl, ⟨B1, b1, rfl, p1⟩, ⟨B2, b2, rfl, p2⟩, ⟨B3, b3, rfl, p3⟩⟩ := hv5; have HP := Aside0.mk (And.intro p1 (And.intro p2 p3)); have HO := Aside0.mk (And.intro (hO _ rfl 5 B1 _ b1 (.inl rfl) rfl) (And.intro (hO _ rfl 6 B2 _ b2 (.inr (.inl rfl)) rfl) (hO _ rfl 7 B3 _ b3 (.inr (.inr rfl)) rfl))); have HB2 := Aside0.mk (below_step (below_alloc (Below.refl w1.heap.size w1) _) hb2); have hr2 := blk_below (blk_below HR0.out HB.out) HB2.out; obtain ⟨k0, k1, k2, k3, k4, k5, k6, k7, k8, k9, kf⟩ := held10 hr2; have HR2 := Aside0.mk hr2; clear hb2 p1 p2 p3 hr2 hO))
  rw [cells10]
  have hsz : w.heap.size + 1 < w1.heap.size := Nat.lt_of_lt_of_le (blk_lt HR0.out) HB.out.size
  have mk : ∀ {A a l}, (Arg w2 A a l ∧ l.length ≤ 140737488355328) → Off (fun k => k < (w1.alloc (.cells #[.int .u16 x.ix, .int .u8 x.sub, .string x.name, .int .u8 x.ty, .int .u8 x.rt, .slice A1 x.df.length a1, .slice A2 x.lo.length a2, .slice A3 x.hi.length a3, .int .u8 x.tag, .int .u8 x.grp, .slice A4 x.val.length a4] 128)).heap.size) A l.length → ArgN (w.heap.size + 1) w2 (.slice A l.length a) l := fun h ho => ⟨_, _, rfl, h.1, h.2, fun ad e hn hk => ho ad e hn (by show ad.block < _; rw [show ad.block = w.heap.size + 1 from hk]; simp; omega)⟩
  refine bodyPost_ret (fdd_end (b := w.heap.size + 1) (cs := #[.int .u16 x.ix, .int .u8 x.sub, .string x.name, .int .u8 x.ty, .int .u8 x.rt, .slice B1 x.df.length b1, .slice B2 x.lo.length b2, .slice B3 x.hi.length b3, .int .u8 x.tag, .int .u8 x.grp]) (t := 121) rfl rfl ?_ rfl) rfl ⟨_, rfl, ⟨_, _, _, rfl, (mk HP.out.1 HO.out.1).cellsO _ _, (mk HP.out.2.1 HO.out.2.1).cellsO _ _, (mk HP.out.2.2 HO.out.2.2).cellsO _ _⟩, ?_⟩
  · exact row10 HR2.out ..
  · exact below_cells (by omega) _ _ (HB0.out.trans ((HB.out.trans (HB2.out.mono HB.out.size)).mono HB0.out.size))
theorem u8_want (r : Int) (h : 0 ≤ r ∧ r < 256) : (bits .and .u8 r 5 == 5) = decide (r / 4 % 2 = 1 ∧ r % 2 = 1) ∧ (bits .and .u8 r 6 == 6) = decide (r / 4 % 2 = 1 ∧ r / 2 % 2 = 1) := by
  obtain ⟨n, rfl⟩ := Int.eq_ofNat_of_zero_le h.1
  have hn : n < 256 := by omega
  have all : ∀ j : Fin 256, (bits .and .u8 ((j.val : Nat) : Int) 5 == 5) = decide (((j.val : Nat) : Int) / 4 % 2 = 1 ∧ ((j.val : Nat) : Int) % 2 = 1) ∧ (bits .and .u8 ((j.val : Nat) : Int) 6 == 6) = decide (((j.val : Nat) : Int) / 4 % 2 = 1 ∧ ((j.val : Nat) : Int) / 2 % 2 = 1) := by decide +kernel
  exact all ⟨n, hn⟩
theorem held3 {W : World} {g : Nat} {t : TypeId} {u0 u1 u2 : Value} (h : W.heap[g]? = some (.cells #[u0, u1, u2] t (0, 0))) : W.cell? ⟨g, 0, none⟩ = some u0 ∧ W.cell? ⟨g, 1, none⟩ = some u1 ∧ W.cell? ⟨g, 2, none⟩ = some u2 ∧ ∀ j, W.frozen? ⟨g, j, none⟩ = false :=
  ⟨blk_cell h 0, blk_cell h 1, blk_cell h 2, fun j => blk_frozen h j⟩
def ChkOne (w : World) (r : Int) (e : Ending) (w' : World) : Prop := e = .returned (.int .u32 r) ∧ Below w.heap.size w w'
set_option maxRecDepth 100000 in
set_option maxHeartbeats 2000000 in
theorem one_any (B : Nat) (v : Value) (o : Option DD) (m : Mp) (hi : 0 ≤ m.ix ∧ m.ix < 65536) (hs : 0 ≤ m.sub ∧ m.sub < 256) (out : Bool) (w : World) (h : DictV B w v o) (ht : Tbl w) (hwf : (findC o m.ix m.sub).1.Wf) :
    Calls Tryd.prog 74 #[mpV m.ix m.sub m.bits, v, .bool out] w (ChkOne w (oneC o out m)) := by
  obtain ⟨i, s, b⟩ := m
  simp only at hi hs hwf ⊢
  have hb0 : Below w.heap.size w (w.alloc (.cells #[.int .u16 i, .int .u8 s, .int .i64 b] 48)) := below_alloc (Below.refl _ _) _
  have hrow := blk_new w (.cells #[.int .u16 i, .int .u8 s, .int .i64 b] 48)
  have HROW := Aside0.mk hrow
  have HT := Aside0.mk (ht.below hb0)
  have HG := Aside0.mk (gap_any i s b hi _ HT.out)
  have HF := Aside0.mk fun W (hW : Below (w.alloc (.cells #[.int .u16 i, .int .u8 s, .int .i64 b] 48)).heap.size (w.alloc (.cells #[.int .u16 i, .int .u8 s, .int .i64 b] 48)) W) => fdd_any B v o i s hi hs W ((h.below hb0).below hW)
  obtain ⟨r, hr⟩ : ∃ r, oneC o out ⟨i, s, b⟩ = r := ⟨_, rfl⟩
  rw [hr]
  unfold oneC at hr
  simp only at hr
  generalize findC o i s = q at HF hr hwf
  obtain ⟨x, n⟩ := q
  simp only at hr hwf
  have HFI := Aside0.mk fun W (hW : Below (w.alloc (.cells #[.int .u16 i, .int .u8 s, .int .i64 b] 48)).heap.size (w.alloc (.cells #[.int .u16 i, .int .u8 s, .int .i64 b] 48)) W) => fits_any i s b x.ty hwf.ty W (HT.out.below hW)
  have hw5 := (u8_want x.rt hwf.rt).1
  have hw6 := (u8_want x.rt hwf.rt).2
  clear hrow ht h hwf
  by_cases hg : gapC ⟨i, s, b⟩
  · rw [if_pos hg] at hr
    rw [decide_eq_true hg] at HG
    cases out
    all_goals
      simp at hr
      subst hr
      go_enter Tryd.func74, Tryd.ntmps74
      go_wp2_with (go_at_call 80; refine HG.out.mono ?_; rintro e w1 ⟨rfl, hb⟩; have HB := Aside0.mk hb; clear hb)
      go_ret
      exact ⟨rfl, hb0.trans (HB.out.mono (by simp))⟩
  · rw [if_neg hg] at hr
    rw [decide_eq_false hg] at HG
    by_cases hn : n = 0
    · subst hn
      rw [if_neg (by simp)] at hr
      by_cases hw : wantC x.rt out
      · have f5 : out = true → (bits .and .u8 x.rt 5 == 5) = true ∧ (bits .and .u8 x.rt 5 != 5) = false := fun e => by
          subst e
          have : (bits .and .u8 x.rt 5 == 5) = true := by rw [hw5]; exact decide_eq_true ⟨hw.1, by simpa using hw.2⟩
          exact ⟨this, by unfold bne; rw [this]; rfl⟩
        have f6 : out = false → (bits .and .u8 x.rt 6 == 6) = true ∧ (bits .and .u8 x.rt 6 != 6) = false := fun e => by
          subst e
          have : (bits .and .u8 x.rt 6 == 6) = true := by rw [hw6]; exact decide_eq_true ⟨hw.1, by simpa using hw.2⟩
          exact ⟨this, by unfold bne; rw [this]; rfl⟩
        by_cases hfi : fitsC x.ty b
        · rw [if_pos ⟨hw, hfi⟩] at hr
          simp only [hfi, decide_true] at HFI
          subst hr
          cases out
          · obtain ⟨g1, g2⟩ := f6 rfl
            clear f5 f6 hw5 hw6
            go_enter Tryd.func74, Tryd.ntmps74
            go_wp2_with (first
              | (go_at_call 80; refine HG.out.mono ?_; rintro e w1 ⟨rfl, hb⟩; have HB := Aside0.mk hb; obtain ⟨c0, c1, c2, -⟩ := held3 (blk_below HROW.out hb); clear hb)
              | (go_at_call 112; refine (HF.out _ HB.out).mono ?_; rintro e w2 ⟨v0, rfl, hv, hb2⟩; obtain ⟨v1, v2, v3, rfl, ⟨A1, a1, rfl, -⟩, ⟨A2, a2, rfl, -⟩, ⟨A3, a3, rfl, -⟩⟩ := hv; have HB2 := Aside0.mk (HB.out.trans (hb2.mono HB.out.size)); have d0 := fun o => (held3 (blk_alloc (blk_below HROW.out HB2.out) o)).1; have d1 := fun o => (held3 (blk_alloc (blk_below HROW.out HB2.out) o)).2.1; have d2 := fun o => (held3 (blk_alloc (blk_below HROW.out HB2.out) o)).2.2.1; clear hb2)
              | (go_at_call 113; refine (HFI.out _ (HB2.out.alloc HB2.out.size _)).mono ?_; rintro e w3 ⟨rfl, hb3⟩; have HB3 := Aside0.mk (below_step (HB2.out.alloc HB2.out.size _) hb3); clear hb3))
            go_ret
            exact ⟨rfl, hb0.trans (HB3.out.mono (by simp))⟩
          · obtain ⟨g1, g2⟩ := f5 rfl
            clear f5 f6 hw5 hw6
            go_enter Tryd.func74, Tryd.ntmps74
            go_wp2_with (first
              | (go_at_call 80; refine HG.out.mono ?_; rintro e w1 ⟨rfl, hb⟩; have HB := Aside0.mk hb; obtain ⟨c0, c1, c2, -⟩ := held3 (blk_below HROW.out hb); clear hb)
              | (go_at_call 112; refine (HF.out _ HB.out).mono ?_; rintro e w2 ⟨v0, rfl, hv, hb2⟩; obtain ⟨v1, v2, v3, rfl, ⟨A1, a1, rfl, -⟩, ⟨A2, a2, rfl, -⟩, ⟨A3, a3, rfl, -⟩⟩ := hv; have HB2 := Aside0.mk (HB.out.trans (hb2.mono HB.out.size)); have d0 := fun o => (held3 (blk_alloc (blk_below HROW.out HB2.out) o)).1; have d1 := fun o => (held3 (blk_alloc (blk_below HROW.out HB2.out) o)).2.1; have d2 := fun o => (held3 (blk_alloc (blk_below HROW.out HB2.out) o)).2.2.1; clear hb2)
              | (go_at_call 113; refine (HFI.out _ (HB2.out.alloc HB2.out.size _)).mono ?_; rintro e w3 ⟨rfl, hb3⟩; have HB3 := Aside0.mk (below_step (HB2.out.alloc HB2.out.size _) hb3); clear hb3))
            go_ret
            exact ⟨rfl, hb0.trans (HB3.out.mono (by simp))⟩
        · rw [if_neg (fun e => hfi e.2)] at hr
          simp only [hfi, decide_false] at HFI
          subst hr
          cases out
          · obtain ⟨g1, g2⟩ := f6 rfl
            clear f5 f6 hw5 hw6
            go_enter Tryd.func74, Tryd.ntmps74
            go_wp2_with (first
              | (go_at_call 80; refine HG.out.mono ?_; rintro e w1 ⟨rfl, hb⟩; have HB := Aside0.mk hb; obtain ⟨c0, c1, c2, -⟩ := held3 (blk_below HROW.out hb); clear hb)
              | (go_at_call 112; refine (HF.out _ HB.out).mono ?_; rintro e w2 ⟨v0, rfl, hv, hb2⟩; obtain ⟨v1, v2, v3, rfl, ⟨A1, a1, rfl, -⟩, ⟨A2, a2, rfl, -⟩, ⟨A3, a3, rfl, -⟩⟩ := hv; have HB2 := Aside0.mk (HB.out.trans (hb2.mono HB.out.size)); have d0 := fun o => (held3 (blk_alloc (blk_below HROW.out HB2.out) o)).1; have d1 := fun o => (held3 (blk_alloc (blk_below HROW.out HB2.out) o)).2.1; have d2 := fun o => (held3 (blk_alloc (blk_below HROW.out HB2.out) o)).2.2.1; clear hb2)
              | (go_at_call 113; refine (HFI.out _ (HB2.out.alloc HB2.out.size _)).mono ?_; rintro e w3 ⟨rfl, hb3⟩; have HB3 := Aside0.mk (below_step (HB2.out.alloc HB2.out.size _) hb3); clear hb3))
            go_ret
            exact ⟨rfl, hb0.trans (HB3.out.mono (by simp))⟩
          · obtain ⟨g1, g2⟩ := f5 rfl
            clear f5 f6 hw5 hw6
            go_enter Tryd.func74, Tryd.ntmps74
            go_wp2_with (first
              | (go_at_call 80; refine HG.out.mono ?_; rintro e w1 ⟨rfl, hb⟩; have HB := Aside0.mk hb; obtain ⟨c0, c1, c2, -⟩ := held3 (blk_below HROW.out hb); clear hb)
              | (go_at_call 112; refine (HF.out _ HB.out).mono ?_; rintro e w2 ⟨v0, rfl, hv, hb2⟩; obtain ⟨v1, v2, v3, rfl, ⟨A1, a1, rfl, -⟩, ⟨A2, a2, rfl, -⟩, ⟨A3, a3, rfl, -⟩⟩ := hv; have HB2 := Aside0.mk (HB.out.trans (hb2.mono HB.out.size)); have d0 := fun o => (held3 (blk_alloc (blk_below HROW.out HB2.out) o)).1; have d1 := fun o => (held3 (blk_alloc (blk_below HROW.out HB2.out) o)).2.1; have d2 := fun o => (held3 (blk_alloc (blk_below HROW.out HB2.out) o)).2.2.1; clear hb2)
              | (go_at_call 113; refine (HFI.out _ (HB2.out.alloc HB2.out.size _)).mono ?_; rintro e w3 ⟨rfl, hb3⟩; have HB3 := Aside0.mk (below_step (HB2.out.alloc HB2.out.size _) hb3); clear hb3))
            go_ret
            exact ⟨rfl, hb0.trans (HB3.out.mono (by simp))⟩
      · have f5 : out = true → (bits .and .u8 x.rt 5 == 5) = false ∧ (bits .and .u8 x.rt 5 != 5) = true := fun e => by
          subst e
          have : (bits .and .u8 x.rt 5 == 5) = false := by rw [hw5]; exact decide_eq_false (fun h => hw ⟨h.1, by simpa using h.2⟩)
          exact ⟨this, by unfold bne; rw [this]; rfl⟩
        have f6 : out = false → (bits .and .u8 x.rt 6 == 6) = false ∧ (bits .and .u8 x.rt 6 != 6) = true := fun e => by
          subst e
          have : (bits .and .u8 x.rt 6 == 6) = false := by rw [hw6]; exact decide_eq_false (fun h => hw ⟨h.1, by simpa using h.2⟩)
          exact ⟨this, by unfold bne; rw [this]; rfl⟩
        rw [if_neg (fun e => hw e.1)] at hr
        subst hr
        cases out
        · obtain ⟨g1, g2⟩ := f6 rfl
          clear f5 f6 hw5 hw6
          go_enter Tryd.func74, Tryd.ntmps74
          go_wp2_with (first
            | (go_at_call 80; refine HG.out.mono ?_; rintro e w1 ⟨rfl, hb⟩; have HB := Aside0.mk hb; obtain ⟨c0, c1, c2, -⟩ := held3 (blk_below HROW.out hb); clear hb)
            | (go_at_call 112; refine (HF.out _ HB.out).mono ?_; rintro e w2 ⟨v0, rfl, hv, hb2⟩; obtain ⟨v1, v2, v3, rfl, ⟨A1, a1, rfl, -⟩, ⟨A2, a2, rfl, -⟩, ⟨A3, a3, rfl, -⟩⟩ := hv; have HB2 := Aside0.mk (HB.out.trans (hb2.mono HB.out.size)); have d0 := fun o => (held3 (blk_alloc (blk_below HROW.out HB2.out) o)).1; have d1 := fun o => (held3 (blk_alloc (blk_below HROW.out HB2.out) o)).2.1; have d2 := fun o => (held3 (blk_alloc (blk_below HROW.out HB2.out) o)).2.2.1; clear hb2)
            | (go_at_call 113; refine (HFI.out _ (HB2.out.alloc HB2.out.size _)).mono ?_; rintro e w3 ⟨rfl, hb3⟩; have HB3 := Aside0.mk (below_step (HB2.out.alloc HB2.out.size _) hb3); clear hb3))
          go_ret
          exact ⟨rfl, hb0.trans ((HB2.out.alloc HB2.out.size _).mono (by simp))⟩
        · obtain ⟨g1, g2⟩ := f5 rfl
          clear f5 f6 hw5 hw6
          go_enter Tryd.func74, Tryd.ntmps74
          go_wp2_with (first
            | (go_at_call 80; refine HG.out.mono ?_; rintro e w1 ⟨rfl, hb⟩; have HB := Aside0.mk hb; obtain ⟨c0, c1, c2, -⟩ := held3 (blk_below HROW.out hb); clear hb)
            | (go_at_call 112; refine (HF.out _ HB.out).mono ?_; rintro e w2 ⟨v0, rfl, hv, hb2⟩; obtain ⟨v1, v2, v3, rfl, ⟨A1, a1, rfl, -⟩, ⟨A2, a2, rfl, -⟩, ⟨A3, a3, rfl, -⟩⟩ := hv; have HB2 := Aside0.mk (HB.out.trans (hb2.mono HB.out.size)); have d0 := fun o => (held3 (blk_alloc (blk_below HROW.out HB2.out) o)).1; have d1 := fun o => (held3 (blk_alloc (blk_below HROW.out HB2.out) o)).2.1; have d2 := fun o => (held3 (blk_alloc (blk_below HROW.out HB2.out) o)).2.2.1; clear hb2)
            | (go_at_call 113; refine (HFI.out _ (HB2.out.alloc HB2.out.size _)).mono ?_; rintro e w3 ⟨rfl, hb3⟩; have HB3 := Aside0.mk (below_step (HB2.out.alloc HB2.out.size _) hb3); clear hb3))
          go_ret
          exact ⟨rfl, hb0.trans ((HB2.out.alloc HB2.out.size _).mono (by simp))⟩
    · rw [if_pos hn] at hr
      have g1 : (n == 0) = false := by simpa using hn
      have g2 : (n != 0) = true := by simpa using hn
      subst hr
      clear hw5 hw6
      cases out
      all_goals
        go_enter Tryd.func74, Tryd.ntmps74
        go_wp2_with (first
          | (go_at_call 80; refine HG.out.mono ?_; rintro e w1 ⟨rfl, hb⟩; have HB := Aside0.mk hb; obtain ⟨c0, c1, c2, -⟩ := held3 (blk_below HROW.out hb); clear hb)
          | (go_at_call 112; refine (HF.out _ HB.out).mono ?_; rintro e w2 ⟨v0, rfl, hv, hb2⟩; obtain ⟨v1, v2, v3, rfl, ⟨A1, a1, rfl, -⟩, ⟨A2, a2, rfl, -⟩, ⟨A3, a3, rfl, -⟩⟩ := hv; have HB2 := Aside0.mk (HB.out.trans (hb2.mono HB.out.size)); have d0 := fun o => (held3 (blk_alloc (blk_below HROW.out HB2.out) o)).1; have d1 := fun o => (held3 (blk_alloc (blk_below HROW.out HB2.out) o)).2.1; have d2 := fun o => (held3 (blk_alloc (blk_below HROW.out HB2.out) o)).2.2.1; clear hb2)
          | (go_at_call 113; refine (HFI.out _ (HB2.out.alloc HB2.out.size _)).mono ?_; rintro e w3 ⟨rfl, hb3⟩; have HB3 := Aside0.mk (below_step (HB2.out.alloc HB2.out.size _) hb3); clear hb3))
        go_ret
        exact ⟨rfl, hb0.trans ((HB2.out.alloc HB2.out.size _).mono (by simp))⟩
end Go.Proofs.YtokebpeplopjhaaDoor.Mp
namespace Go.Proofs.YtokebpeplopjhaaDoor.Mp
open Go.RowKit Go.Shelf Go.Proofs.YtokebpeplopjhaaDoor.Rng Go.Proofs.YtokebpeplopjhaaDoorW.PrintWords Go.Proofs.YtokebpeplopjhaaDoorW.PrintMore Go.Proofs.YtokebpeplopjhaaDoorW.PrintLast

/-- A Map that may be. -/
def Mp.Wf (m : Mp) : Prop := (0 ≤ m.ix ∧ m.ix < 65536) ∧ (0 ≤ m.sub ∧ m.sub < 256) ∧ (-9223372036854775808 ≤ m.bits ∧ m.bits ≤ 9223372036854775807)
/-- A row of Maps. -/
def MsAt (w : World) (A : Option Addr) (l : List Mp) : Prop := ∀ (j : Nat) m, l[j]? = some m → ∃ ad, A = some ad ∧ w.cell? (ad.add (j * 3)) = some (.int .u16 m.ix) ∧ w.cell? ⟨(ad.add (j * 3)).block, (ad.add (j * 3)).off + 1, none⟩ = some (.int .u8 m.sub) ∧ w.cell? ⟨(ad.add (j * 3)).block, (ad.add (j * 3)).off + 2, none⟩ = some (.int .i64 m.bits)
theorem MsAt.below {w w' : World} {A : Option Addr} {l : List Mp} (h : MsAt w A l) (hb : Below w.heap.size w w') : MsAt w' A l := by
  intro j m hj
  obtain ⟨ad, hA, h1, h2, h3⟩ := h j m hj
  exact ⟨ad, hA, pw_cell_below hb h1, pw_cell_below hb h2, pw_cell_below hb h3⟩
theorem sumC_take (l : List Mp) (k : Nat) (m : Mp) (h : l[k]? = some m) : sumC (l.take (k + 1)) = sumC (l.take k) + m.bits := by
  unfold sumC
  rw [List.take_add_one, h]
  simp
theorem sumC_nonneg {l : List Mp} (h : ∀ m ∈ l, 0 ≤ m.bits) : 0 ≤ sumC l := by
  induction l with
  | nil => simp [sumC]
  | cons a r ih =>
    have h1 := h a (by simp)
    have h2 := ih (fun m hm => h m (by simp [hm]))
    simp only [sumC, List.map_cons, List.sum_cons] at h2 ⊢
    omega
theorem sumC_le {l : List Mp} (h : ∀ m ∈ l, 0 ≤ m.bits) (k : Nat) : 0 ≤ sumC (l.take k) ∧ sumC (l.take k) ≤ sumC l := by
  refine ⟨sumC_nonneg (fun m hm => h m (List.mem_of_mem_take hm)), ?_⟩
  have h1 := sumC_nonneg (l := l.drop k) (fun m hm => h m (List.mem_of_mem_drop hm))
  have h2 : sumC l = sumC (l.take k) + sumC (l.drop k) := by
    unfold sumC
    rw [← List.sum_append, ← List.map_append, List.take_append_drop]
  omega
set_option maxRecDepth 100000 in
set_option maxHeartbeats 2000000 in
theorem msize_any (l : List Mp) (A : Option Addr) (c : Nat) (w : World) (h : MsAt w A l) (hl : l.length ≤ 1000000) (hb : ∀ m ∈ l, 0 ≤ m.bits) (hs : sumC l ≤ 64) :
    Calls Tryd.prog 23 #[.slice A l.length c] w fun e w' => e = .returned (.int .i64 (sizeC l : Nat)) ∧ Below w.heap.size w w' := by
  have HM := Aside0.mk h
  have HBT := Aside0.mk hb
  obtain ⟨n, hn⟩ : ∃ n, l.length = n := ⟨_, rfl⟩
  have HN := Aside0.mk hn
  have HS := Aside0.mk hs
  rw [hn] at hl ⊢
  clear h hb hn hs
  go_enter Tryd.func23, Tryd.ntmps23
  go_wp2
  go_loopw [3, 8] (fun sm i wr => ∃ (k : Nat), k ≤ n ∧ i = .int .i64 k ∧ sm = .int .i64 (sumC (l.take k)) ∧ Aside0 (Below w.heap.size w wr)) (fun _ i _ => n - (intOf i).toNat)
  case atStart => exact ⟨0, Nat.zero_le _, rfl, rfl, ⟨Below.refl _ _⟩⟩
  case round =>
    obtain ⟨k, hk, rfl, rfl, HB⟩ := hrel
    have hsb := sumC_le HBT.out k
    have hs64 := HS.out
    by_cases hlt : k < n
    · obtain ⟨m, hm⟩ : ∃ m, l[k]? = some m := ⟨_, List.getElem?_eq_getElem (by rw [HN.out]; exact hlt)⟩
      obtain ⟨ad, rfl, y0, y1, y2⟩ := HM.out.below HB.out k m hm
      have hst := sumC_take l k m hm
      have hsb2 := sumC_le HBT.out (k + 1)
      rw [hst] at hsb2
      have HST := Aside0.mk hst
      obtain ⟨s, hse⟩ : ∃ s, sumC (l.take k) = s := ⟨_, rfl⟩
      rw [hse] at hsb hsb2 HST ⊢
      have hq : 0 ≤ s + m.bits ∧ s + m.bits ≤ 64 := by omega
      have hq2 : 0 ≤ m.bits ∧ m.bits ≤ 64 := by have := HBT.out m (List.mem_of_getElem? hm); omega
      have hq3 : 0 ≤ s ∧ s ≤ 64 := by omega
      clear hsb2 hsb hs64 hm hse hst
      go_wp2
      go_roundw
      case rel => exact ⟨k + 1, by omega, by go_num, by rw [HST.out], ⟨HB.out.alloc HB.out.size _⟩⟩
      case measure => simp [intOf]; omega
    · obtain rfl : k = n := by omega
      have hz : sumC (l.take k) = sumC l := by rw [List.take_of_length_le (by rw [HN.out]; exact Nat.le_refl _)]
      rw [hz] at hsb ⊢
      go_wp2
      go_ret
      refine ⟨ret_i ?_, HB.out⟩
      unfold sizeC
      rw [Int.toNat_of_nonneg (by omega)]
end Go.Proofs.YtokebpeplopjhaaDoor.Mp
namespace Go.Proofs.YtokebpeplopjhaaDoor.Mp
open Go.RowKit Go.Shelf Go.Proofs.YtokebpeplopjhaaDoor.Rng Go.Proofs.YtokebpeplopjhaaDoorW.PrintWords Go.Proofs.YtokebpeplopjhaaDoorW.PrintMore Go.Proofs.YtokebpeplopjhaaDoorW.PrintLast

set_option maxRecDepth 100000 in
set_option maxHeartbeats 2000000 in
theorem mcheck_any (B : Nat) (v : Value) (o : Option DD) (l : List Mp) (A : Option Addr) (c : Nat) (out : Bool) (w : World) (h : DictV B w v o) (ht : Tbl w) (hm : MsAt w A l) (hl : l.length ≤ 1000000) (hmw : ∀ m ∈ l, m.Wf) (hwf : ∀ i s, (findC o i s).1.Wf) :
    Calls Tryd.prog 21 #[v, .slice A l.length c, .bool out] w (ChkOne w (checkC o l out)) := by
  obtain ⟨r, hr⟩ : ∃ r, checkC o l out = r := ⟨_, rfl⟩
  rw [hr]
  unfold checkC at hr
  have HD := Aside0.mk h
  have HT := Aside0.mk ht
  have HM := Aside0.mk hm
  have HMW := Aside0.mk hmw
  have HWF := Aside0.mk hwf
  obtain ⟨n, hn⟩ : ∃ n, l.length = n := ⟨_, rfl⟩
  have HN := Aside0.mk hn
  rw [hn] at hr hl ⊢
  clear h ht hm hmw hwf hn
  by_cases h64 : 64 < n
  · rw [if_pos h64] at hr
    subst hr
    go_enter Tryd.func21, Tryd.ntmps21
    go_wp2
    go_ret
    exact ⟨rfl, Below.refl _ _⟩
  · rw [if_neg h64] at hr
    have HR := Aside0.mk hr
    clear hr
    go_enter Tryd.func21, Tryd.ntmps21
    go_wp2
    go_loopw [7, 16] (fun lf i wr => ∃ (k : Nat) (left : Int), k ≤ n ∧ i = .int .i64 k ∧ lf = .int .i64 left ∧ 0 ≤ left ∧ left ≤ 64 ∧ Aside0 (checkL o out l 64 = checkL o out (l.drop k) left) ∧ Aside0 (Below w.heap.size w wr)) (fun _ i _ => n - (intOf i).toNat)
    case atStart => exact ⟨0, 64, Nat.zero_le _, rfl, rfl, by omega, by omega, ⟨rfl⟩, ⟨Below.refl _ _⟩⟩
    case round =>
      obtain ⟨k, left, hk, rfl, rfl, hl0, hl1, HC, HB⟩ := hrel
      by_cases hlt : k < n
      · obtain ⟨m, hmk⟩ : ∃ m, l[k]? = some m := ⟨_, List.getElem?_eq_getElem (by rw [HN.out]; exact hlt)⟩
        obtain ⟨ad, rfl, y0, y1, y2⟩ := HM.out.below HB.out k m hmk
        obtain ⟨hw1, hw2, hw3⟩ := HMW.out m (List.mem_of_getElem? hmk)
        have hdrop : l.drop k = m :: l.drop (k + 1) := by
          have hkl : k < l.length := by rw [HN.out]; exact hlt
          rw [List.drop_eq_getElem_cons hkl]
          rw [List.getElem?_eq_getElem hkl] at hmk
          injection hmk with hmk
          rw [hmk]
        have hc := HC.out
        rw [hdrop] at hc
        rw [show checkL o out (m :: l.drop (k + 1)) left = if oneC o out m ≠ 0 then oneC o out m else if left - m.bits < 0 then 0x06040042 else checkL o out (l.drop (k + 1)) (left - m.bits) from rfl] at hc
        have hb1 : Below wr.heap.size wr (wr.alloc (.cells #[.int .u16 m.ix, .int .u8 m.sub, .int .i64 m.bits] 48)) := below_alloc (Below.refl _ _) _
        have HO := Aside0.mk (one_any B v o m hw1 hw2 out _ ((HD.out.below HB.out).below hb1) ((HT.out.below HB.out).below hb1) (HWF.out m.ix m.sub))
        have HBL := Aside0.mk (blk_new wr (.cells #[.int .u16 m.ix, .int .u8 m.sub, .int .i64 m.bits] 48))
        have HB1 := Aside0.mk hb1
        obtain ⟨q, hq⟩ : ∃ q, oneC o out m = q := ⟨_, rfl⟩
        have hbits : q = 0 → 1 ≤ m.bits ∧ m.bits ≤ 64 := fun e => one_bits (hq.trans e)
        rw [hq] at HO hc
        clear hdrop hmk hq hb1
        by_cases hq0 : q = 0
        · obtain ⟨hb2, hb3⟩ := hbits hq0
          subst hq0
          rw [if_neg (by simp)] at hc
          clear hbits
          by_cases hneg : left - m.bits < 0
          · rw [if_pos hneg] at hc
            have hrr : r = 100925506 := by rw [← HR.out, hc]
            subst hrr
            go_wp2_with (go_at_call 74; refine HO.out.mono ?_; rintro e w1 ⟨rfl, hb⟩; have HB2 := Aside0.mk (HB.out.trans ((HB1.out.trans (hb.mono HB1.out.size)).mono HB.out.size)); have hc2 := pw_cell_below hb (blk_cell HBL.out 2); clear hb)
            go_ret
            exact ⟨rfl, HB2.out⟩
          · rw [if_neg hneg] at hc
            have HC2 := Aside0.mk hc
            go_wp2_with (go_at_call 74; refine HO.out.mono ?_; rintro e w1 ⟨rfl, hb⟩; have HB2 := Aside0.mk (HB.out.trans ((HB1.out.trans (hb.mono HB1.out.size)).mono HB.out.size)); have hc2 := pw_cell_below hb (blk_cell HBL.out 2); clear hb)
            go_roundw
            case rel => exact ⟨k + 1, left - m.bits, by omega, by go_num, rfl, by omega, by omega, HC2, HB2⟩
            case measure => simp [intOf]; omega
        · have g1 : (q == 0) = false := by simpa using hq0
          have g2 : (q != 0) = true := by simpa using hq0
          rw [if_pos hq0] at hc
          have hrr : r = q := by rw [← HR.out, hc]
          subst hrr
          clear hbits
          go_wp2_with (go_at_call 74; refine HO.out.mono ?_; rintro e w1 ⟨rfl, hb⟩; have HB2 := Aside0.mk (HB.out.trans ((HB1.out.trans (hb.mono HB1.out.size)).mono HB.out.size)); have hc2 := pw_cell_below hb (blk_cell HBL.out 2); clear hb)
          go_ret
          exact ⟨rfl, HB2.out⟩
      · obtain rfl : k = n := by omega
        have hrr : r = 0 := by
          rw [← HR.out, HC.out, List.drop_of_length_le (by rw [HN.out]; exact Nat.le_refl _)]
          rfl
        subst hrr
        go_wp2
        go_ret
        exact ⟨rfl, HB.out⟩
end Go.Proofs.YtokebpeplopjhaaDoor.Mp
namespace Go.Proofs.YtokebpeplopjhaaDoor.Num
open Go.RowKit Go.Shelf Go.Proofs.YtokebpeplopjhaaDoor.Rng Go.Proofs.YtokebpeplopjhaaDoor.Mp
attribute [local go_sem] Oper.semAt_some

theorem and_one (v : Int) (h : 0 ≤ v ∧ v < 256) : bits .and .u8 v 1 = v % 2 := by
  obtain ⟨n, rfl⟩ := Int.eq_ofNat_of_zero_le h.1
  have hn : n < 256 := by omega
  have all : ∀ j : Fin 256, bits .and .u8 ((j.val : Nat) : Int) 1 = ((j.val : Nat) : Int) % 2 := by decide +kernel
  exact all ⟨n, hn⟩
def bitsV (zs : List Int) (at_ : Nat) (k : Nat) (args : Array Value) (_ : World) : Prop := args = #[.int .i64 (k : Int), .int .u8 (bit zs (at_ + k))]
set_option maxRecDepth 100000 in
set_option maxHeartbeats 2000000 in
theorem bits_seq (Bn Ba Bb cap : Nat) (A : Option Addr) (zs : List Int) (p n : Nat) (M : Nat → Prop) (W : World) (hn : W.cell? ⟨Bn, 0, none⟩ = some (.int .i64 n)) (ha : W.cell? ⟨Ba, 0, none⟩ = some (.int .i64 p)) (hb : W.cell? ⟨Bb, 0, none⟩ = some (.slice A zs.length cap))
    (hMn : ¬ M Bn) (hMa : ¬ M Ba) (hMb : ¬ M Bb) (hz : Rd W A zs) (hA : Off M A zs.length) (hy : Byt zs) (hl : p + n ≤ 8 * zs.length) (hp : p + n ≤ 1000000) :
    SeqL Tryd.prog 114 #[.pointer (some ⟨Bn, 0, none⟩), .pointer (some ⟨Ba, 0, none⟩), .pointer (some ⟨Bb, 0, none⟩)] n (bitsV zs p) M (fun _ => False) W := by
  intro l J Jx hJ hJx hY h0
  have HY := Lib.hid hY
  have HA := Lib.hid hA
  have Hz := Lib.hid hz
  have HBY := Lib.hid hy
  have HL := Lib.hid hl
  obtain ⟨m, hm⟩ : ∃ m, zs.length = m := ⟨_, rfl⟩
  have HM := Lib.hid hm
  rw [hm] at hb
  clear hJ hJx hY hA hz hy hl hm
  refine callsIn_of_wp Tryd.func114 rfl trivial ?_ rfl
  simp only [Tryd.ntmps114, List.size_toArray, List.length_cons, List.length_nil, Nat.reduceAdd, Nat.reduceSub, Array.replicate_succ, Array.replicate_zero, List.push_toArray, List.append_toArray, List.nil_append, List.cons_append]
  gi_wp2
  gi_loopw [8] (fun i wr => ∃ k : Nat, k ≤ n ∧ i = .int .i64 (k : Int) ∧ J k wr ∧ Fr M W wr)
    (fun i _ => n - (intOf i).toNat)
  case atStart => exact ⟨0, Nat.zero_le _, by simp, h0, Fr.refl _ _⟩
  case round =>
    obtain ⟨k, hk, rfl, hJs, hfr⟩ := hrel
    have hcn := hfr.cell hn hMn
    have hca := hfr.cell ha hMa
    have hcb := hfr.cell hb hMb
    by_cases hlt : k < n
    · obtain ⟨ad, hA0, hcell⟩ := (Hz.out.fr hfr HA.out).at_ ((p + k) / 8) (by have := HL.out; omega)
      subst hA0
      have hq : (p + k) / 8 < m := by have := HL.out; have := HM.out; omega
      obtain ⟨x, hx⟩ : ∃ x, zs[(p + k) / 8]?.getD 0 = x := ⟨_, rfl⟩
      rw [hx] at hcell
      have hx0 : 0 ≤ x ∧ x < 256 := by
        have hq' : (p + k) / 8 < zs.length := by have := HM.out; omega
        rw [List.getElem?_eq_getElem hq', Option.getD_some] at hx
        have := HBY.out _ (List.getElem_mem hq')
        rw [hx] at this
        exact this
      have hbit : bits .and .u8 (x / 2 ^ ((p + k) % 8)) 1 = bit zs (p + k) := by
        have h1 : 0 ≤ x / 2 ^ ((p + k) % 8) ∧ x / 2 ^ ((p + k) % 8) < 256 := by
          have h2 : (0 : Int) < 2 ^ ((p + k) % 8) := Int.pow_pos (by decide)
          refine ⟨Int.ediv_nonneg hx0.1 (Int.le_of_lt h2), ?_⟩
          exact Int.lt_of_le_of_lt (Int.ediv_le_self _ hx0.1) hx0.2
        rw [and_one _ h1]
        unfold bit
        rw [hx]
      obtain ⟨fn, tmps, assign, body, hy, hR⟩ := HY.out k _ wr hlt rfl hJs
      have HK := Lib.hid hlt
      clear hx hk
      gi_wp2
      refine (RoundIn.wide_any hR).mono ?_
      rintro e W3 (⟨rfl, hJ3, hk3⟩ | ⟨rfl, hJx3, hk3⟩)
      · gi_wp2
        go_roundw
        case rel => exact ⟨k + 1, by omega, by go_num, hJ3, hfr.trans hk3⟩
        case measure => simp [intOf]; omega
      · gi_wp2
        refine bodyPost_ret (results_none rfl _ _ _) rfl ?_
        exact ⟨⟨_, rfl⟩, .inr ⟨k, HK.out, hJx3⟩⟩
    · obtain rfl : k = n := by omega
      gi_wp2
      go_end0
      exact ⟨⟨_, rfl⟩, .inl hJs⟩
end Go.Proofs.YtokebpeplopjhaaDoor.Num
namespace Go.Proofs.YtokebpeplopjhaaDoor.Num
open Go.RowKit Go.Shelf Go.Proofs.YtokebpeplopjhaaDoor.Rng Go.Proofs.YtokebpeplopjhaaDoor.Mp
attribute [local go_sem] Oper.semAt_some

set_option maxRecDepth 100000 in
set_option maxHeartbeats 1000000 in
theorem mbits (A : Option Addr) (m c : Nat) (p n : Int) (w : World) :
    Calls Tryd.prog 75 #[.slice A m c, .int .i64 p, .int .i64 n] w fun e w' => e = .returned (.func (.func 114) #[] #[.pointer (some ⟨w.heap.size + 1 + 1, 0, none⟩), .pointer (some ⟨w.heap.size + 1, 0, none⟩), .pointer (some ⟨w.heap.size, 0, none⟩)]) ∧ w' = ((w.alloc (.cells #[.slice A m c] 34)).alloc (.cells #[.int .i64 p] 3)).alloc (.cells #[.int .i64 n] 3) := by
  go_enter Tryd.func75, Tryd.ntmps75
  go_wp2
  go_ret
  exact ⟨rfl, rfl⟩
/-- A row of cells that are bytes. -/
def RowB (w : World) (g : Nat) (zs : List Int) : Prop := w.heap[g]? = some (.cells (zs.map (Value.int .u8)).toArray 5 (0, 0))
theorem RowB.cell {w : World} {g : Nat} {zs : List Int} (h : RowB w g zs) (j : Nat) (hj : j < zs.length) : w.cell? ⟨g, j, none⟩ = some (.int .u8 (zs[j]?.getD 0)) ∧ w.frozen? ⟨g, j, none⟩ = false := by
  have h' : w.heap[g]? = some (.cells (zs.map (Value.int .u8)).toArray 5 (0, 0)) := h
  refine ⟨?_, ?_⟩
  · simp [World.cell?, h', hj]
  · simp [World.frozen?, h']
theorem RowB.put {w : World} {g : Nat} {zs : List Int} (h : RowB w g zs) (j : Nat) (y : Int) : RowB (w.setCell ⟨g, j, none⟩ (.int .u8 y)) g (zs.set j y) := by
  have h' : w.heap[g]? = some (.cells (zs.map (Value.int .u8)).toArray 5 (0, 0)) := h
  unfold RowB
  simp [World.setCell, Array.getElem?_modify, h', List.map_set]
set_option maxRecDepth 1000000 in
theorem u8_join (a b : Int) (r : Nat) (hr : r < 8) (ha : 0 ≤ a ∧ a < 2 ^ r) (hb : b = 0 ∨ b = 1) : bits .or .u8 a (IntKind.u8.wrap (b * 2 ^ r)) = a + b * 2 ^ r := by
  obtain ⟨n, rfl⟩ := Int.eq_ofNat_of_zero_le ha.1
  have hp : (2 : Int) ^ r ≤ 128 := by
    match r, hr with
    | 0, _ => decide
    | 1, _ => decide
    | 2, _ => decide
    | 3, _ => decide
    | 4, _ => decide
    | 5, _ => decide
    | 6, _ => decide
    | 7, _ => decide
  have all : ∀ (r : Fin 8) (n : Fin 256), n.val < 2 ^ r.val → bits .or .u8 ((n.val : Nat) : Int) (IntKind.u8.wrap (0 * 2 ^ r.val)) = ((n.val : Nat) : Int) + 0 * 2 ^ r.val ∧ bits .or .u8 ((n.val : Nat) : Int) (IntKind.u8.wrap (1 * 2 ^ r.val)) = ((n.val : Nat) : Int) + 1 * 2 ^ r.val := by decide +kernel
  have hn : n < 2 ^ r := by
    have := ha.2
    exact_mod_cast this
  have hn2 : n < 256 := by
    have := ha.2
    omega
  obtain ⟨q1, q2⟩ := all ⟨r, hr⟩ ⟨n, hn2⟩ hn
  rcases hb with rfl | rfl
  · exact q1
  · exact q2
/-- Bytes 0. -/
def mz (n : Nat) : Array Value := madeCells (Value.int .u8 0).cells (n * 1)
theorem mz_eq (n : Nat) : mz n = ((List.replicate n (0 : Int)).map (Value.int .u8)).toArray := by
  unfold mz madeCells
  apply Array.ext
  · simp
  · intro i h1 h2
    simp [Value.cells, Nat.mod_one]
theorem info_u8 : (Tryd.prog.info? 5).map (fun i => (i.zero, i.size, i.bytes)) = some (some (.int .u8 0), 1, 1) := by kernel_rfl
theorem make_u8 (n : Nat) (hn : n ≤ 1000000) (W : World) : (Instr.makeSlice 34 (.int .i64 n) (.int .i64 n)).run Tryd.prog W = .ok (.slice (some ⟨W.heap.size, 0, none⟩) n n) (W.alloc (.cells (mz n) 5)) := by
  have h := info_u8
  cases hi : Tryd.prog.info? 5 with
  | none => rw [hi] at h; cases h
  | some i =>
    rw [hi] at h
    simp only [Option.map_some, Option.some.injEq, Prod.mk.injEq] at h
    obtain ⟨h1, h2, h3⟩ := h
    have := run_makeSlice (P := Tryd.prog) (w := W) 34 5 i (.int .u8 0) Tryd.underlying34 hi h1 .i64 .i64 n n (by omega) (Int.le_refl _) (by rw [h2]; simp; omega) (by rw [h3]; omega) (by omega)
    rw [this, h2]
    rfl
theorem rowB_mz (W : World) (n : Nat) : RowB (W.alloc (.cells (mz n) 5)) W.heap.size (List.replicate n 0) := by
  unfold RowB
  rw [mz_eq]
  exact World.alloc_heap_new W _
end Go.Proofs.YtokebpeplopjhaaDoor.Num
