/- mapping.Write. Producers, plainly; time, may, timed. dict.New: the plain law; the store of a count; an empty dictionary; rows of entries. dict.New. -/
import Derived.Test.YtokebpeplopjhaaDoorY10
import Derived.Test.YtokebpeplopjhaaDoorY7
import Derived.Test.YtokebpeplopjhaaDoorY8
namespace Go.Proofs.YtokebpeplopjhaaDoor.Mp
open Go.RowKit Go.Shelf Go.Proofs.YtokebpeplopjhaaDoor.Rng Go.Proofs.YtokebpeplopjhaaDoorW.PrintWords Go.Proofs.YtokebpeplopjhaaDoorW.PrintMore Go.Proofs.YtokebpeplopjhaaDoorW.PrintLast

theorem chk_plain {t : Int} {b lo hi : List Int} (h : chkC t b lo hi = 0) : plainC t b = 0 := by
  unfold chkC at h
  by_cases h0 : plainC t b = 0
  · exact h0
  · rw [if_pos h0] at h
    exact h
/-- A value for a place that may be. -/
def VlOk (x : Vl) : Prop := (0 ≤ x.1.1 ∧ x.1.1 < 65536) ∧ (0 ≤ x.1.2 ∧ x.1.2 < 256) ∧ Byt x.2 ∧ x.2.length ≤ 1000
theorem unpA_ok {o : Option DD} {b : List Int} : ∀ (l : List Mp) (at_ : Nat) (acc : List Vl), (∀ m ∈ l, m.Wf ∧ m.bits ≤ 64) → (∀ x ∈ acc, VlOk x) → (∀ x ∈ (unpA o b l at_ acc).1, VlOk x) ∧ (unpA o b l at_ acc).1.length ≤ acc.length + l.length
  | [], _, acc, _, ha => ⟨ha, by simp [unpA]⟩
  | m :: r, at_, acc, hl, ha => by
    have hm := hl m (by simp)
    have hr : ∀ m ∈ r, m.Wf ∧ m.bits ≤ 64 := fun x hx => hl x (by simp [hx])
    unfold unpA
    split
    · have := unpA_ok (o := o) (b := b) r (at_ + m.bits.toNat) acc hr ha
      exact ⟨this.1, by simp only [List.length_cons]; omega⟩
    · split
      · exact ⟨by simp, by simp⟩
      · have := unpA_ok (o := o) (b := b) r (at_ + m.bits.toNat) (acc ++ [((m.ix, m.sub), outV b at_ m.bits.toNat)]) hr (fun x hx => by
          rcases List.mem_append.1 hx with hx | hx
          · exact ha x hx
          · simp at hx
            subst hx
            exact ⟨hm.1.1, hm.1.2.1, outV_byt _ _ _, by rw [outV_length]; have := hm.2; omega⟩)
        exact ⟨this.1, by have h2 := this.2; simp at h2 ⊢; omega⟩
theorem unpack_ok {o : Option DD} {l : List Mp} {b : List Int} (hl : ∀ m ∈ l, m.Wf) : (∀ x ∈ (unpackC o l b).1, VlOk x) ∧ (unpackC o l b).1.length ≤ l.length := by
  unfold unpackC
  split
  · exact ⟨by simp, by simp⟩
  · rename_i hc
    split
    · exact ⟨by simp, by simp⟩
    · have hc0 : checkC o l false = 0 := by simpa using hc
      have hall : ∀ m ∈ l, oneC o false m = 0 := by
        unfold checkC at hc0
        split at hc0
        · simp at hc0
        · exact (check_all (by omega) hc0).1
      have := unpA_ok (o := o) (b := b) l 0 [] (fun m hm => ⟨hl m hm, by have := one_bits (hall m hm); omega⟩) (by simp)
      exact ⟨this.1, by simpa using this.2⟩
/-- What a dictionary is behind writes. -/
def writesC (d : DD) (vs : List Vl) : DD := vs.foldl (fun d x => wrtC d x.1.1 x.1.2 x.2) d
theorem good_writes {vs : List Vl} : ∀ {d : DD}, Good d → (∀ x ∈ vs, VlOk x) → Good (writesC d vs) := by
  induction vs with
  | nil => exact fun h _ => h
  | cons x r ih =>
    intro d h hv
    exact ih (h.wrt _ _ _ (hv x (by simp)).2.2.1 (fun y _ hy => chk_plain hy)) (fun y hy => hv y (by simp [hy]))
def zVl : Vl := ((0, 0), [])
theorem vl_at {w : World} {base : Nat} {v : Value} {xs : List Vl} (h : Kd.R kV 36 w base (fun _ => True) v xs) (k : Nat) (hk : k < xs.length) (hok : VlOk (xs[k]?.getD zVl)) :
    ∃ g cap A c, v = .slice (some ⟨g, 0, none⟩) xs.length cap ∧ w.cell? ⟨g, k * 3, none⟩ = some (.int .u16 (xs[k]?.getD zVl).1.1) ∧ w.cell? ⟨g, k * 3 + 1, none⟩ = some (.int .u8 (xs[k]?.getD zVl).1.2) ∧ w.cell? ⟨g, k * 3 + 2, none⟩ = some (.slice A (xs[k]?.getD zVl).2.length c) ∧ ArgV w (.slice A (xs[k]?.getD zVl).2.length c) (xs[k]?.getD zVl).2 := by
  obtain ⟨g, cap, rfl, -, -, -⟩ := Kd.R_form h (by omega)
  obtain ⟨c, _, hM, hc, _⟩ := Kd.R_elem h zVl (k : Int) (by omega) (by omega)
  rw [Int.toNat_natCast, List.getD_eq_getElem?_getD] at hM
  rw [Int.toNat_natCast] at hc
  obtain ⟨_, _, rfl, ⟨_, _, rfl, rfl, rfl⟩, ⟨v2, rfl, hR⟩⟩ := hM
  have ha := ArgV.of_R hR hok.2.2.1 (by have := hok.2.2.2; omega)
  obtain ⟨A, c2, rfl, h2⟩ := ha
  exact ⟨g, cap, A, c2, rfl, hc 0 _ rfl, hc 1 _ rfl, hc 2 _ rfl, ⟨A, c2, rfl, h2⟩⟩
/-- What Write leaves. -/
def MwrSaid (B : Nat) (w : World) (g bi bs : Nat) (r : Int) (d : DD) (e : Ending) (w' : World) : Prop := e = .returned (.int .u32 r) ∧ DictB B w' g bi bs d ∧ Fr (fun k => k = g ∨ k = bi) w w'
theorem tblB_fr {w w' : World} {B g bi : Nat} (h : TblB B w) (hf : Fr (fun k => k = g ∨ k = bi) w w') (hg : B ≤ g) (hi : B ≤ bi) : TblB B w' := by
  obtain ⟨bm, h1, h2, h3, h4⟩ := h
  exact ⟨bm, h1, h2, hf.cell h3 (by rintro (e | e); exact absurd (show 0 = g from e) (by omega); exact absurd (show 0 = bi from e) (by omega)), h4.block (hf.block bm h4.lt (by rintro (e | e) <;> omega))⟩
set_option maxRecDepth 100000 in
set_option maxHeartbeats 4000000 in
theorem mwrite_any (B g bi bs : Nat) (d : DD) (hd : Good d) (l : List Mp) (A : Option Addr) (c : Nat) (Ab : Option Addr) (cb : Nat) (b : List Int) (w : World) (h : DictB B w g bi bs d) (ht : TblB B w) (hm : MsAt w A l) (hl : l.length ≤ 1000000) (hmw : ∀ m ∈ l, m.Wf) (hb : Arg w Ab cb b) :
    Calls Tryd.prog 24 #[.pointer (some ⟨g, 0, none⟩), .slice A l.length c, .slice Ab b.length cb] w (MwrSaid B w g bi bs (unpackC (some d) l b).2 (writesC d (unpackC (some d) l b).1)) := by
  have HUN := Aside0.mk (unpack_any B (.pointer (some ⟨g, 0, none⟩)) (some d) l A c Ab cb b w ⟨g, rfl, h.dict⟩ ht.tbl hm hl hmw hd.find hb)
  obtain ⟨hok, hlen⟩ := unpack_ok (o := some d) (b := b) hmw
  obtain ⟨⟨xs, q⟩, hq⟩ : ∃ q, unpackC (some d) l b = q := ⟨_, rfl⟩
  rw [hq] at HUN hok hlen ⊢
  simp only at HUN hok hlen ⊢
  have HOK := Aside0.mk hok
  have HD := Aside0.mk h
  have HT := Aside0.mk ht
  have HG := Aside0.mk hd
  have hgB : B ≤ g ∧ B ≤ bi := ⟨h.choose_spec.choose_spec.choose_spec.choose_spec.base.1, h.choose_spec.choose_spec.choose_spec.choose_spec.base.2.1⟩
  have hgl : g < w.heap.size ∧ bi < w.heap.size := ⟨blk_lt h.choose_spec.choose_spec.choose_spec.choose_spec.blk, h.choose_spec.choose_spec.choose_spec.choose_spec.items.lt⟩
  have hxl : xs.length ≤ 1000000 := by omega
  clear hok h ht hm hb hd hq hlen hmw
  go_enter Tryd.func24, Tryd.ntmps24
  go_wp2_with (go_at_call 27; refine HUN.out.mono ?_; rintro e w1 ⟨v1, base, rfl, hbase, hR, hb1⟩; have HR1 := Aside0.mk hR; obtain ⟨A2, c2, rfl, -, -⟩ := Kd.R_reads hR; have HB1 := Aside0.mk hb1; have HBS := Aside0.mk hbase; clear hR hb1 hbase)
  obtain ⟨n, hn⟩ : ∃ n, xs.length = n := ⟨_, rfl⟩
  have HN := Aside0.mk hn
  rw [hn] at HR1 hxl ⊢
  go_loopw [20] (fun i wr => ∃ (k : Nat), k ≤ n ∧ i = .int .i64 k ∧ Aside0 (DictB B wr g bi bs (writesC d (xs.take k))) ∧ Aside0 (Kd.R kV 36 wr base (fun _ => True) (.slice A2 n c2) xs) ∧ Aside0 (Fr (fun k => k = g ∨ k = bi) w wr)) (fun i _ => n - (intOf i).toNat)
  case atStart => exact ⟨0, Nat.zero_le _, rfl, ⟨HD.out.below HB1.out⟩, HR1, ⟨Fr.of_below HB1.out⟩⟩
  case round =>
    clear hn
    obtain ⟨k, hk, rfl, HDK, HRK, HF⟩ := hrel
    by_cases hlt : k < n
    · have hkx : k < xs.length := by rw [HN.out]; exact hlt
      have hmem : xs[k]?.getD zVl ∈ xs := by
        rw [List.getElem?_eq_getElem hkx]
        exact List.getElem_mem hkx
      have hok := HOK.out _ hmem
      obtain ⟨gv, cap, A3, c3, hv, y0, y1, y2, ha⟩ := vl_at HRK.out k hkx hok
      rw [HN.out] at hv
      injection hv with hv1 _ hv2
      subst hv1 hv2
      have htk : xs.take (k + 1) = xs.take k ++ [xs[k]?.getD zVl] := by rw [List.take_add_one, List.getElem?_eq_getElem hkx]; rfl
      have HTK := Aside0.mk htk
      have HGK := Aside0.mk (good_writes HG.out (fun y hy => HOK.out y (List.mem_of_mem_take hy)) : Good (writesC d (xs.take k)))
      generalize xs[k]?.getD zVl = x at *
      obtain ⟨⟨ix, sub⟩, zs⟩ := x
      simp only at y0 y1 y2 ha hok
      have hb1 : Below wr.heap.size wr (wr.alloc (.cells #[.int .u16 ix, .int .u8 sub, .slice A3 zs.length c3] 36)) := below_alloc (Below.refl _ _) _
      have HWR := Aside0.mk (write_any B g bi bs (writesC d (xs.take k)) HGK.out ix sub hok.1 hok.2.1 A3 c3 zs _ (HDK.out.below hb1) ((tblB_fr HT.out HF.out hgB.1 hgB.2).tbl.below hb1) (ha.below hb1))
      have HB1' := Aside0.mk hb1
      clear htk hmem ha hb1
      go_wp2_with (go_at_call 20; refine HWR.out.mono ?_; rintro e w2 ⟨rfl, hd2, hf2⟩; have HD2 := Aside0.mk hd2; have HF2 := Aside0.mk hf2; clear hd2 hf2)
      go_roundw
      case rel =>
        refine ⟨k + 1, by omega, by go_num, ⟨?_⟩, ⟨R_fr (Kd.R_below HRK.out HB1'.out) HF2.out (fun jj hj e => ?_)⟩, ⟨HF.out.trans ((Fr.of_below HB1'.out).trans HF2.out)⟩⟩
        · rw [HTK.out]
          unfold writesC
          rw [List.foldl_append]
          exact HD2.out
        · have := HBS.out
          rcases e with e | e <;> omega
      case measure => simp [intOf]; omega
    · obtain rfl : k = n := by omega
      have hz : xs.take k = xs := List.take_of_length_le (by rw [HN.out]; exact Nat.le_refl _)
      have hdk := HDK.out
      rw [hz] at hdk
      go_wp2
      go_ret
      exact ⟨rfl, hdk, HF.out⟩
end Go.Proofs.YtokebpeplopjhaaDoor.Mp
namespace Go.Proofs.YtokebpeplopjhaaDoor.Mp
open Go.RowKit Go.Shelf Go.Proofs.YtokebpeplopjhaaDoor.Rng Go.Proofs.YtokebpeplopjhaaDoorW.PrintWords Go.Proofs.YtokebpeplopjhaaDoorW.PrintMore Go.Proofs.YtokebpeplopjhaaDoorW.PrintLast

def timeC (n : Int) : Prop := 0 ≤ n ∧ n ≤ 1099511627776
instance (n : Int) : Decidable (timeC n) := by unfold timeC; infer_instance
/-- How an object is sent. -/
structure Cm where
  on : Bool
  id : Int
  kind : Int
  inh : Int
  ev : Int
  st : Int
structure Cm.Wf (c : Cm) : Prop where
  id : 0 ≤ c.id ∧ c.id < 65536
  kind : 0 ≤ c.kind ∧ c.kind < 256
  inh : -9223372036854775808 ≤ c.inh ∧ c.inh ≤ 9223372036854775807
  ev : -9223372036854775808 ≤ c.ev ∧ c.ev ≤ 9223372036854775807
  st : 0 ≤ c.st ∧ c.st < 256
abbrev Cm.cells (c : Cm) : List Value := [.bool c.on, .int .u16 c.id, .int .u8 c.kind, .int .i64 c.inh, .int .i64 c.ev, .int .u8 c.st]
abbrev Cm.v (c : Cm) : Value := .agg #[.bool c.on, .int .u16 c.id, .int .u8 c.kind, .int .i64 c.inh, .int .i64 c.ev, .int .u8 c.st]
def cmOk (c : Cm) : Prop := c.id ≤ 2047 ∧ (c.kind ≤ 240 ∨ 254 ≤ c.kind) ∧ timeC c.inh ∧ timeC c.ev ∧ c.st ≤ 240
instance (c : Cm) : Decidable (cmOk c) := by unfold cmOk; infer_instance
def Cm.timed (c : Cm) : Bool := c.on && decide (254 ≤ c.kind)
/-- An object. -/
structure Ob where
  cm : Cm
  maps : List Mp
  sent : Bool
  bts : List Int
  at_ : Int
  wanted : Bool
  counts : Int
  begun : Bool
abbrev Ob.cells (x : Ob) (vm vb : Value) : List Value := [.bool x.cm.on, .int .u16 x.cm.id, .int .u8 x.cm.kind, .int .i64 x.cm.inh, .int .i64 x.cm.ev, .int .u8 x.cm.st, vm, .bool x.sent, vb, .int .i64 x.at_, .bool x.wanted, .int .i64 x.counts, .bool x.begun]
def zCm : Cm := ⟨false, 0, 0, 0, 0, 0⟩
def zOb : Ob := ⟨zCm, [], false, [], 0, false, 0, false⟩
/-- An object begins anew. -/
def Ob.begin_ (x : Ob) (now : Int) : Ob := ⟨x.cm, x.maps, false, [], now, false, 0, x.cm.st == 0⟩
set_option maxRecDepth 100000 in
set_option maxHeartbeats 1000000 in
theorem ptime_any (n : Int) (w : World) : Calls Tryd.prog 92 #[.int .i64 n] w fun e w' => e = .returned (.bool (decide (timeC n))) ∧ w' = w := by
  by_cases h0 : 0 ≤ n
  · by_cases h1 : n ≤ 1099511627776
    · rw [decide_eq_true (show timeC n from ⟨h0, h1⟩)]
      go_enter Tryd.func92, Tryd.ntmps92
      go_wp2
      go_ret
      exact ⟨rfl, rfl⟩
    · rw [decide_eq_false (show ¬ timeC n from fun h => h1 h.2)]
      have d1 : decide (n ≤ 1099511627776) = false := decide_eq_false h1
      go_enter Tryd.func92, Tryd.ntmps92
      go_wp2
      go_ret
      exact ⟨rfl, rfl⟩
  · rw [decide_eq_false (show ¬ timeC n from fun h => h0 h.1)]
    have d1 : decide (0 ≤ n) = false := decide_eq_false h0
    go_enter Tryd.func92, Tryd.ntmps92
    go_wp2
    go_ret
    exact ⟨rfl, rfl⟩
set_option maxRecDepth 100000 in
set_option maxHeartbeats 1000000 in
theorem ptimed_any (c : Cm) (w : World) : Calls Tryd.prog 95 #[c.v] w fun e w' => e = .returned (.bool c.timed) ∧ Below w.heap.size w w' := by
  have hb0 : ∀ o, Below w.heap.size w (w.alloc o) := fun o => below_alloc (Below.refl _ _) _
  obtain ⟨on, id, kind, inh, ev, st⟩ := c
  cases on with
  | false =>
    go_enter Tryd.func95, Tryd.ntmps95
    go_wp2
    go_ret
    exact ⟨rfl, hb0 _⟩
  | true =>
    go_enter Tryd.func95, Tryd.ntmps95
    go_wp2
    go_ret
    refine ⟨?_, hb0 _⟩
    simp [Cm.timed]
set_option maxRecDepth 100000 in
set_option maxHeartbeats 2000000 in
theorem pmay_any (c : Cm) (w : World) : Calls Tryd.prog 89 #[c.v] w fun e w' => e = .returned (.bool (decide (cmOk c))) ∧ Below w.heap.size w w' := by
  have hb0 : ∀ o, Below w.heap.size w (w.alloc o) := fun o => below_alloc (Below.refl _ _) _
  obtain ⟨on, id, kind, inh, ev, st⟩ := c
  by_cases h1 : id ≤ 2047
  · by_cases h2 : kind ≤ 240
    · have d2 := decide_eq_true h2
      by_cases h4 : timeC inh
      · have t4 := decide_eq_true h4
        by_cases h5 : timeC ev
        · have t5 := decide_eq_true h5
          by_cases h6 : st ≤ 240
          · rw [decide_eq_true (show cmOk ⟨on, id, kind, inh, ev, st⟩ from ⟨h1, (.inl h2), h4, h5, h6⟩)]
            clear h4 h5
            go_enter Tryd.func89, Tryd.ntmps89
            go_wp2_with (go_at_call 92; refine (ptime_any _ _).mono ?_; rintro e w' ⟨rfl, hw⟩; have hw := hw.symm; subst hw)
            go_ret
            exact ⟨rfl, hb0 _⟩
          · rw [decide_eq_false (show ¬ cmOk ⟨on, id, kind, inh, ev, st⟩ from fun h => h6 h.2.2.2.2)]
            have d6 := decide_eq_false h6
            clear h4 h5
            go_enter Tryd.func89, Tryd.ntmps89
            go_wp2_with (go_at_call 92; refine (ptime_any _ _).mono ?_; rintro e w' ⟨rfl, hw⟩; have hw := hw.symm; subst hw)
            go_ret
            exact ⟨rfl, hb0 _⟩
        · have t5 := decide_eq_false h5
          rw [decide_eq_false (show ¬ cmOk ⟨on, id, kind, inh, ev, st⟩ from fun h => h5 h.2.2.2.1)]
          clear h4 h5
          go_enter Tryd.func89, Tryd.ntmps89
          go_wp2_with (go_at_call 92; refine (ptime_any _ _).mono ?_; rintro e w' ⟨rfl, hw⟩; have hw := hw.symm; subst hw)
          go_ret
          exact ⟨rfl, hb0 _⟩
      · have t4 := decide_eq_false h4
        have t5 := t4
        rw [decide_eq_false (show ¬ cmOk ⟨on, id, kind, inh, ev, st⟩ from fun h => h4 h.2.2.1)]
        clear h4
        go_enter Tryd.func89, Tryd.ntmps89
        go_wp2_with (go_at_call 92; refine (ptime_any _ _).mono ?_; rintro e w' ⟨rfl, hw⟩; have hw := hw.symm; subst hw)
        go_ret
        exact ⟨rfl, hb0 _⟩
    · have d2 := decide_eq_false h2
      by_cases h3 : 254 ≤ kind
      · have d3 := decide_eq_true h3
        by_cases h4 : timeC inh
        · have t4 := decide_eq_true h4
          by_cases h5 : timeC ev
          · have t5 := decide_eq_true h5
            by_cases h6 : st ≤ 240
            · rw [decide_eq_true (show cmOk ⟨on, id, kind, inh, ev, st⟩ from ⟨h1, (.inr h3), h4, h5, h6⟩)]
              clear h4 h5
              go_enter Tryd.func89, Tryd.ntmps89
              go_wp2_with (go_at_call 92; refine (ptime_any _ _).mono ?_; rintro e w' ⟨rfl, hw⟩; have hw := hw.symm; subst hw)
              go_ret
              exact ⟨rfl, hb0 _⟩
            · rw [decide_eq_false (show ¬ cmOk ⟨on, id, kind, inh, ev, st⟩ from fun h => h6 h.2.2.2.2)]
              have d6 := decide_eq_false h6
              clear h4 h5
              go_enter Tryd.func89, Tryd.ntmps89
              go_wp2_with (go_at_call 92; refine (ptime_any _ _).mono ?_; rintro e w' ⟨rfl, hw⟩; have hw := hw.symm; subst hw)
              go_ret
              exact ⟨rfl, hb0 _⟩
          · have t5 := decide_eq_false h5
            rw [decide_eq_false (show ¬ cmOk ⟨on, id, kind, inh, ev, st⟩ from fun h => h5 h.2.2.2.1)]
            clear h4 h5
            go_enter Tryd.func89, Tryd.ntmps89
            go_wp2_with (go_at_call 92; refine (ptime_any _ _).mono ?_; rintro e w' ⟨rfl, hw⟩; have hw := hw.symm; subst hw)
            go_ret
            exact ⟨rfl, hb0 _⟩
        · have t4 := decide_eq_false h4
          have t5 := t4
          rw [decide_eq_false (show ¬ cmOk ⟨on, id, kind, inh, ev, st⟩ from fun h => h4 h.2.2.1)]
          clear h4
          go_enter Tryd.func89, Tryd.ntmps89
          go_wp2_with (go_at_call 92; refine (ptime_any _ _).mono ?_; rintro e w' ⟨rfl, hw⟩; have hw := hw.symm; subst hw)
          go_ret
          exact ⟨rfl, hb0 _⟩
      · have d3 := decide_eq_false h3
        rw [decide_eq_false (show ¬ cmOk ⟨on, id, kind, inh, ev, st⟩ from fun h => by rcases h.2.1 with h | h; exact h2 h; exact h3 h)]
        go_enter Tryd.func89, Tryd.ntmps89
        go_wp2_with (go_at_call 92; refine (ptime_any _ _).mono ?_; rintro e w' ⟨rfl, hw⟩; have hw := hw.symm; subst hw)
        go_ret
        exact ⟨rfl, hb0 _⟩
  · have d1 := decide_eq_false h1
    rw [decide_eq_false (show ¬ cmOk ⟨on, id, kind, inh, ev, st⟩ from fun h => h1 h.1)]
    go_enter Tryd.func89, Tryd.ntmps89
    go_wp2_with (go_at_call 92; refine (ptime_any _ _).mono ?_; rintro e w' ⟨rfl, hw⟩; have hw := hw.symm; subst hw)
    go_ret
    exact ⟨rfl, hb0 _⟩
end Go.Proofs.YtokebpeplopjhaaDoor.Mp
namespace Go.Proofs.YtokebpeplopjhaaDoor.Mp
open Go.RowKit Go.Shelf Go.Proofs.YtokebpeplopjhaaDoor.Rng Go.Proofs.YtokebpeplopjhaaDoorW.PrintWords Go.Proofs.YtokebpeplopjhaaDoorW.PrintMore Go.Proofs.YtokebpeplopjhaaDoorW.PrintLast

instance (e : En) : Decidable (mayC chkC e) := by unfold mayC; infer_instance
/-- A dictionary of entries, one behind the other; or why there is none. -/
def newC : List En → DD → Int × DD
  | [], d => (0, d)
  | e :: r, d => if ¬ mayC chkC e then (80, d) else if (d.D e.ix e.sub).isSome = true then (6, d) else newC r (d.add e)
/-- A row of entries. -/
def EsAt (w : World) (A : Option Addr) (l : List En) : Prop := ∀ j e, l[j]? = some e → ∃ ad v1 v2 v3, A = some ad ∧ (∀ (i : Nat) u, (e.cells v1 v2 v3)[i]? = some u → w.cell? (ad.add (j * 10 + i)) = some u) ∧ ArgV w v1 e.df ∧ ArgV w v2 e.lo ∧ ArgV w v3 e.hi
theorem EsAt.below {w w' : World} {A : Option Addr} {l : List En} (h : EsAt w A l) (hb : Below w.heap.size w w') : EsAt w' A l := by
  intro j e hj
  obtain ⟨ad, v1, v2, v3, hA, hc, h1, h2, h3⟩ := h j e hj
  exact ⟨ad, v1, v2, v3, hA, fun i u hu => pw_cell_below hb (hc i u hu), h1.below hb, h2.below hb, h3.below hb⟩
/-- A store into the map of counts. -/
theorem DictAt.storeS {B : Nat} {w : World} {g : Nat} {d : DD} {bi bs n m : Nat} {fi fs : Value → Option Value} (h : DictAt B w g d bi bs n m fi fs) {i : Int} (hi : 0 ≤ i ∧ i < 65536) (c : Int) :
    ∃ o, (Instr.mapUpdate 123 (.map (some bs)) (.int .u16 i) (.int .i64 c)).run Tryd.prog w = .ok () (ChangeMaps.setBlock w bs o) ∧
      ∃ f', DictAt B (ChangeMaps.setBlock w bs o) g ⟨d.D, fun i' => if i' = i then c else d.S i', d.c⟩ bi bs n (m + 1) fi f' ∧ Fr (fun k => k = bs) w (ChangeMaps.setBlock w bs o) := by
  obtain ⟨f', hf1, hf2⟩ : ∃ f' : Value → Option Value, f' (.int .u16 i) = some (.int .i64 c) ∧ ∀ y, y ≠ .int .u16 i → f' y = fs y := by
    classical
    exact ⟨fun y => if y = .int .u16 i then some (.int .i64 c) else fs y, by simp, fun y hy => by simp [hy]⟩
  obtain ⟨o, h1, h2⟩ := h.subs.put law_u16 Tryd.underlying123 (key_u16 hi) (.int .i64 c) hf1 hf2
  have hfr : Fr (fun k => k = bs) w (ChangeMaps.setBlock w bs o) := ⟨rfl, rfl, rfl, by simp [ChangeMaps.setBlock], fun k hk hm => by
    simp only [ChangeMaps.setBlock]
    rw [Array.getElem?_setIfInBounds_ne (fun e => hm e.symm)]⟩
  have hgb : g ≠ bs := by
    intro e
    have hb := h.blk
    obtain ⟨es, clock, he, _⟩ := h.subs
    rw [e, he] at hb
    cases hb
  have hnb : NoByte w (fun k => k = bs) := fun p y hp hc => by
    obtain ⟨es, clock, he, _⟩ := h.subs
    unfold World.cell? at hc
    rw [hp, he] at hc
    cases hc
  refine ⟨o, h1, f', ⟨?_, h.base, ?_, h2, h.no, ?_, ?_⟩, hfr⟩
  · exact (hfr.block g (blk_lt h.blk) hgb).trans h.blk
  · exact h.items.block (hfr.block bi h.items.lt h.base.2.2.2)
  · intro i' s' y hi' hs' hd
    obtain ⟨u, hu1, hu2⟩ := h.yes i' s' y hi' hs' hd
    exact ⟨u, hu1, hu2.fr hfr hnb⟩
  · intro i' hi'
    by_cases e : i' = i
    · subst e
      rw [hf1]
      simp
    · rw [hf2 _ (by intro e2; injection e2 with _ e2; exact e e2)]
      simp only [e, if_false]
      exact h.count i' hi'
/-- An empty dictionary, new. -/
theorem dict_new (B : Nat) (w : World) (hB : B ≤ w.heap.size) : DictAt B (((w.alloc (.map #[] 0)).alloc (.map #[] 0)).alloc (.cells #[.map (some w.heap.size), .map (some (w.heap.size + 1)), .int .i64 0] 125)) (w.heap.size + 2) DD.none w.heap.size (w.heap.size + 1) 0 0 (fun _ => none) (fun _ => none) := by
  have h1 := MapAt.made Tryd.prog 33 w
  have h2 := MapAt.made Tryd.prog 31 (w.alloc (.map #[] 0))
  rw [World.size_alloc] at h2
  have hb1 : Below (w.alloc (.map #[] 0)).heap.size (w.alloc (.map #[] 0)) ((w.alloc (.map #[] 0)).alloc (.map #[] 0)) := below_alloc (Below.refl _ _) _
  have hb2 : Below ((w.alloc (.map #[] 0)).alloc (.map #[] 0)).heap.size ((w.alloc (.map #[] 0)).alloc (.map #[] 0)) (((w.alloc (.map #[] 0)).alloc (.map #[] 0)).alloc (.cells #[.map (some w.heap.size), .map (some (w.heap.size + 1)), .int .i64 0] 125)) := below_alloc (Below.refl _ _) _
  have h3 := blk_new ((w.alloc (.map #[] 0)).alloc (.map #[] 0)) (.cells #[.map (some w.heap.size), .map (some (w.heap.size + 1)), .int .i64 0] 125)
  rw [World.size_alloc, World.size_alloc] at h3
  exact ⟨h3, ⟨by omega, by omega, by omega, by omega⟩, (h1.below hb1).below hb2, h2.below hb2, fun _ _ _ _ _ => rfl, (fun _ _ _ _ _ h => by cases h), fun _ _ => rfl⟩
theorem newS_le (l : List En) (k : Nat) (i : Int) : ((l.take k).foldl DD.add DD.none).S i ≤ k ∧ 0 ≤ ((l.take k).foldl DD.add DD.none).S i := by
  induction k with
  | zero => simp [DD.none]
  | succ k ih =>
    rw [List.take_add_one, List.foldl_append]
    cases l[k]? with
    | none => simp only [Option.toList_none, List.foldl_nil]; omega
    | some e =>
      simp only [Option.toList_some, List.foldl_cons, List.foldl_nil, DD.add]
      split <;> omega
theorem bnd_len {t : Int} {a : List Int} : bndE t a ↔ (a = [] ∨ chkC t a [] [] = 0) := Iff.rfl
/-- dict.may. -/
theorem dmay_any (x : En) (hx : x.Wf) (v : Value) (w : World) (h : EnV w v x) (ht : Tbl w) :
    Calls Tryd.prog 70 #[v] w fun e w' => e = .returned (.bool (decide (mayC chkC x))) ∧ Below w.heap.size w w' := by
  by_cases hk : knd x.ty = 0
  · rw [decide_eq_false (fun e => e.1 hk)]
    exact dmay_1 x hx v w h ht hk
  by_cases hr : 15 < x.rt
  · rw [decide_eq_false (fun e => by have := e.2.1; omega)]
    exact dmay_2 x hx v w h ht hk hr
  by_cases hg : 16 < x.grp
  · rw [decide_eq_false (fun e => by have := e.2.2.1; omega)]
    exact dmay_3 x hx v w h ht hk hr hg
  by_cases hn : 100 < x.name.size
  · rw [decide_eq_false (fun e => by have := e.2.2.2.1; omega)]
    exact dmay_4 x hx v w h ht hk hr hg hn
  by_cases hl : bndE x.ty x.lo
  · by_cases hh : bndE x.ty x.hi
    · have e : decide (mayC chkC x) = (chkC x.ty (firstC x) x.lo x.hi == 0) := by
        by_cases h0 : chkC x.ty (firstC x) x.lo x.hi = 0
        · rw [decide_eq_true (show mayC chkC x from ⟨hk, by omega, by omega, by omega, hl, hh, h0⟩), h0]
          rfl
        · rw [decide_eq_false (fun e => h0 e.2.2.2.2.2.2)]
          simpa using h0
      rw [e]
      exact dmay_7 x hx v w h ht hk hr hg hn hl hh
    · rw [decide_eq_false (fun e => hh e.2.2.2.2.2.1)]
      exact dmay_6 x hx v w h ht hk hr hg hn hl hh
  · rw [decide_eq_false (fun e => hl e.2.2.2.2.1)]
    exact dmay_5 x hx v w h ht hk hr hg hn hl
theorem EnV.fr {M : Nat → Prop} {w w' : World} {v : Value} {x : En} (h : EnV w v x) (hf : Fr M w w') (hM : NoByte w M) : EnV w' v x := by
  obtain ⟨v1, v2, v3, hv, h1, h2, h3⟩ := h
  exact ⟨v1, v2, v3, hv, h1.fr hf hM, h2.fr hf hM, h3.fr hf hM⟩
end Go.Proofs.YtokebpeplopjhaaDoor.Mp
namespace Go.Proofs.YtokebpeplopjhaaDoor.Mp
open Go.RowKit Go.Shelf Go.Proofs.YtokebpeplopjhaaDoor.Rng Go.Proofs.YtokebpeplopjhaaDoorW.PrintWords Go.Proofs.YtokebpeplopjhaaDoorW.PrintMore Go.Proofs.YtokebpeplopjhaaDoorW.PrintLast

/-- A row's entry, cell by cell. -/
theorem en_at {w : World} {A : Option Addr} {l : List En} (h : EsAt w A l) {k : Nat} {x : En} (hk : l[k]? = some x) :
    ∃ ad A1 a1 A2 a2 A3 a3, A = some ad ∧ ArgV w (.slice A1 x.df.length a1) x.df ∧ ArgV w (.slice A2 x.lo.length a2) x.lo ∧ ArgV w (.slice A3 x.hi.length a3) x.hi ∧
      w.cell? (ad.add (k * 10)) = some (.int .u16 x.ix) ∧ w.cell? ⟨(ad.add (k * 10)).block, (ad.add (k * 10)).off + 1, none⟩ = some (.int .u8 x.sub) ∧ w.cell? ⟨(ad.add (k * 10)).block, (ad.add (k * 10)).off + 2, none⟩ = some (.string x.name) ∧
      w.cell? ⟨(ad.add (k * 10)).block, (ad.add (k * 10)).off + 3, none⟩ = some (.int .u8 x.ty) ∧ w.cell? ⟨(ad.add (k * 10)).block, (ad.add (k * 10)).off + 4, none⟩ = some (.int .u8 x.rt) ∧ w.cell? ⟨(ad.add (k * 10)).block, (ad.add (k * 10)).off + 5, none⟩ = some (.slice A1 x.df.length a1) ∧
      w.cell? ⟨(ad.add (k * 10)).block, (ad.add (k * 10)).off + 6, none⟩ = some (.slice A2 x.lo.length a2) ∧ w.cell? ⟨(ad.add (k * 10)).block, (ad.add (k * 10)).off + 7, none⟩ = some (.slice A3 x.hi.length a3) ∧ w.cell? ⟨(ad.add (k * 10)).block, (ad.add (k * 10)).off + 8, none⟩ = some (.int .u8 x.tag) ∧
      w.cell? ⟨(ad.add (k * 10)).block, (ad.add (k * 10)).off + 9, none⟩ = some (.int .u8 x.grp) := by
  obtain ⟨ad, v1, v2, v3, hA, hc, h1, h2, h3⟩ := h k x hk
  obtain ⟨A1, a1, rfl, q1⟩ := h1
  obtain ⟨A2, a2, rfl, q2⟩ := h2
  obtain ⟨A3, a3, rfl, q3⟩ := h3
  have f : ∀ (i : Nat) u, 0 < i → (x.cells (.slice A1 x.df.length a1) (.slice A2 x.lo.length a2) (.slice A3 x.hi.length a3))[i]? = some u → w.cell? ⟨(ad.add (k * 10)).block, (ad.add (k * 10)).off + i, none⟩ = some u := fun i u hi hu => by
    rw [← add_field _ _ i hi]
    exact hc i u hu
  exact ⟨ad, A1, a1, A2, a2, A3, a3, hA, ⟨_, _, rfl, q1⟩, ⟨_, _, rfl, q2⟩, ⟨_, _, rfl, q3⟩, hc 0 _ rfl, f 1 _ (by omega) rfl, f 2 _ (by omega) rfl, f 3 _ (by omega) rfl, f 4 _ (by omega) rfl, f 5 _ (by omega) rfl, f 6 _ (by omega) rfl, f 7 _ (by omega) rfl, f 8 _ (by omega) rfl, f 9 _ (by omega) rfl⟩
theorem tbl_fr {w w' : World} {B : Nat} (h : TblB B w) (hf : Fr (fun k => k = B) w w') : Tbl w' := by
  obtain ⟨bm, h1, h2, h3, h4⟩ := h
  exact TblB.tbl ⟨bm, h1, h2, hf.cell h3 (Nat.ne_of_lt h2), h4.block (hf.block bm h4.lt (Nat.ne_of_lt h1))⟩
theorem item_of {w : World} {x : En} {A1 A2 A3 A4 : Option Addr} {a1 a2 a3 a4 : Nat} {b : List Int} (h : EnV w (.agg #[.int .u16 x.ix, .int .u8 x.sub, .string x.name, .int .u8 x.ty, .int .u8 x.rt, .slice A1 x.df.length a1, .slice A2 x.lo.length a2, .slice A3 x.hi.length a3, .int .u8 x.tag, .int .u8 x.grp]) x) (hb : ArgV w (.slice A4 b.length a4) b) :
    ItV w (.agg #[.int .u16 x.ix, .int .u8 x.sub, .string x.name, .int .u8 x.ty, .int .u8 x.rt, .slice A1 x.df.length a1, .slice A2 x.lo.length a2, .slice A3 x.hi.length a3, .int .u8 x.tag, .int .u8 x.grp, .slice A4 b.length a4]) ⟨x, b⟩ := by
  obtain ⟨v1, v2, v3, e, h1, h2, h3⟩ := h
  simp only [Value.agg.injEq, Array.mk.injEq, List.cons.injEq, true_and, and_true] at e
  obtain ⟨rfl, rfl, rfl⟩ := e
  exact ⟨_, _, _, _, rfl, h1, h2, h3, hb⟩
theorem add_eq (d : DD) (x : En) : d.add x = ⟨fun i' s' => if i' = x.ix ∧ s' = x.sub then some ⟨x, firstC x⟩ else d.D i' s', fun i' => if i' = x.ix then d.S x.ix + 1 else d.S i', d.c⟩ := by
  unfold DD.add
  congr 1
  funext i'
  by_cases h : i' = x.ix
  · subst h
    simp
  · simp [h]
/-- What New tells. -/
def NewSaid (B : Nat) (w : World) (r : Int × Option DD) (e : Ending) (w' : World) : Prop := Below w.heap.size w w' ∧ match r.2 with
  | none => e = .returned (.tuple #[.pointer none, .int .i64 r.1])
  | some d => ∃ g bi bs, e = .returned (.tuple #[.pointer (some ⟨g, 0, none⟩), .int .i64 r.1]) ∧ w.heap.size ≤ g ∧ w.heap.size ≤ bi ∧ w.heap.size ≤ bs ∧ DictB B w' g bi bs d
def newR (l : List En) : Int × Option DD := if 1024 < l.length then (3, none) else ((newC l DD.none).1, if (newC l DD.none).1 = 0 then some (newC l DD.none).2 else none)
set_option maxRecDepth 100000 in
set_option maxHeartbeats 4000000 in
theorem new_any (B : Nat) (l : List En) (A : Option Addr) (c : Nat) (w : World) (h : EsAt w A l) (hwf : ∀ e ∈ l, e.Wf) (ht : Tbl w) (hB : B ≤ w.heap.size) (hl : l.length ≤ 1024) (r : Int × Option DD) (hr : newR l = r) :
    Calls Tryd.prog 19 #[.slice A l.length c] w (NewSaid B w r) := by
  have HE := Aside0.mk h
  have HWF := Aside0.mk hwf
  have HT := Aside0.mk ht
  have HR := Aside0.mk hr
  have HBB := Aside0.mk hB
  obtain ⟨n, hn⟩ : ∃ n, l.length = n := ⟨_, rfl⟩
  have HN := Aside0.mk hn
  rw [hn] at hl ⊢
  clear h hwf ht hr hB hn
  have hmm := @run_makeMap Tryd.prog
  go_enter Tryd.func19, Tryd.ntmps19
  go_wp2
  go_loopw [19] (fun i wr => ∃ (k : Nat) (d : DD), k ≤ n ∧ i = .int .i64 k ∧ Aside0 (newC l DD.none = newC (l.drop k) d ∧ d = (l.take k).foldl DD.add DD.none) ∧ Aside0 (DictB B wr (w.heap.size + 1 + 1) w.heap.size (w.heap.size + 1) d) ∧ Aside0 (Below w.heap.size w wr)) (fun i _ => n - (intOf i).toNat)
  case atStart =>
    clear hmm
    refine ⟨0, DD.none, Nat.zero_le _, rfl, ⟨rfl, rfl⟩, ⟨⟨_, _, _, _, dict_new B w HBB.out⟩⟩, ⟨?_⟩⟩
    exact (((below_alloc (Below.refl _ _) _).alloc (by simp) _).alloc (by simp; omega) _)
  case round =>
    clear hmm
    obtain ⟨k, d, hk, rfl, HP, HD, HB⟩ := hrel
    by_cases hlt : k < n
    · obtain ⟨x, hx⟩ : ∃ x, l[k]? = some x := ⟨_, List.getElem?_eq_getElem (by rw [HN.out]; exact hlt)⟩
      have hxw := HWF.out x (List.mem_of_getElem? hx)
      obtain ⟨ad, A1, a1, A2, a2, A3, a3, rfl, g1, g2, g3, y0, y1, y2, y3, y4, y5, y6, y7, y8, y9⟩ := en_at (HE.out.below HB.out) hx
      have HG := Aside0.mk (And.intro g1 (And.intro g2 g3))
      have HX := Aside0.mk hx
      clear g1 g2 g3 hx
      have HA2 := Aside0.mk (show Below wr.heap.size wr ((wr.alloc (.cells #[.int .u16 x.ix, .int .u8 x.sub, .string x.name, .int .u8 x.ty, .int .u8 x.rt, .slice A1 x.df.length a1, .slice A2 x.lo.length a2, .slice A3 x.hi.length a3, .int .u8 x.tag, .int .u8 x.grp] 121)).alloc (.cells #[.int .u16 x.ix, .int .u8 x.sub] 33)) from (below_alloc (Below.refl _ _) _).alloc (by simp) _)
      have hdrop : l.drop k = x :: l.drop (k + 1) := by
        have hkl : k < l.length := by rw [HN.out]; exact hlt
        rw [List.drop_eq_getElem_cons hkl]
        have := HX.out
        rw [List.getElem?_eq_getElem hkl] at this
        injection this with this
        rw [this]
      have HDR := Aside0.mk hdrop
      clear hdrop
      by_cases hm : mayC chkC x
      · have HM := Aside0.mk (decide_eq_true hm)
        go_wp2_with (go_at_call 70; refine (dmay_any x hxw _ _ (EnV.below (w := wr) ⟨_, _, _, rfl, HG.out.1, HG.out.2.1, HG.out.2.2⟩ HA2.out) ((HT.out.below HB.out).below HA2.out)).mono ?_; rw [HM.out]; rintro e w1 ⟨rfl, hb⟩; have HW1 := Aside0.mk (below_step HA2.out hb); have HROW := Aside0.mk (blk_below (blk_alloc (blk_new wr _) _) hb); have HPL := Aside0.mk (blk_below (show _ = some _ from (World.size_alloc wr (.cells #[.int .u16 x.ix, .int .u8 x.sub, .string x.name, .int .u8 x.ty, .int .u8 x.rt, .slice A1 x.df.length a1, .slice A2 x.lo.length a2, .slice A3 x.hi.length a3, .int .u8 x.tag, .int .u8 x.grp] 121)) ▸ blk_new (wr.alloc (.cells #[.int .u16 x.ix, .int .u8 x.sub, .string x.name, .int .u8 x.ty, .int .u8 x.rt, .slice A1 x.df.length a1, .slice A2 x.lo.length a2, .slice A3 x.hi.length a3, .int .u8 x.tag, .int .u8 x.grp] 121)) (.cells #[.int .u16 x.ix, .int .u8 x.sub] 33)) hb); clear hb)
        clear y0 y1 y2 y3 y4 y5 y6 y7 y8 y9
        have HD1 := Aside0.mk (HD.out.below HW1.out)
        obtain ⟨n1, m1, fi, fs, hda⟩ := HD1.out
        have HDA := Aside0.mk hda
        have cg0 : ∀ X, Below w1.heap.size w1 X → X.cell? ⟨w.heap.size + 1 + 1, 0, none⟩ = some (.map (some w.heap.size)) := fun X hX => pw_cell_below hX (blk_cell hda.blk 0)
        have cp0 : ∀ X, Below w1.heap.size w1 X → X.cell? ⟨wr.heap.size + 1, 0, none⟩ = some (.int .u16 x.ix) := fun X hX => pw_cell_below hX (blk_cell HPL.out 0)
        have cp1 : ∀ X, Below w1.heap.size w1 X → X.cell? ⟨wr.heap.size + 1, 1, none⟩ = some (.int .u8 x.sub) := fun X hX => pw_cell_below hX (blk_cell HPL.out 1)
        have hS0 : Below w1.heap.size w1 w1 := Below.refl _ _
        cases hdx : d.D x.ix x.sub with
        | some y =>
          have hrr : r = (6, none) := by
            rw [← HR.out]
            unfold newR
            rw [if_neg (by have := HN.out; omega), HP.out.1, HDR.out]
            simp [newC, hm, hdx]
          subst hrr
          obtain ⟨v, hv, hl⟩ := hda.look hxw.ix hxw.sub
          rw [hdx] at hv hl
          simp only [Option.getD_some, Option.isSome_some] at hv hl
          obtain ⟨v1, v2, v3, v4, rfl, ⟨C1, e1, rfl, -⟩, ⟨C2, e2, rfl, -⟩, ⟨C3, e3, rfl, -⟩, ⟨C4, e4, rfl, -⟩⟩ := hv
          have hl10 : ∀ X, Below w1.heap.size w1 X → (Instr.lookup 122 (.map (some w.heap.size)) (pl x.ix x.sub) true).run Tryd.prog X = .ok (.tuple #[.agg #[.int .u16 y.ix, .int .u8 y.sub, .string y.name, .int .u8 y.ty, .int .u8 y.rt, .slice C1 y.df.length e1, .slice C2 y.lo.length e2, .slice C3 y.hi.length e3, .int .u8 y.tag, .int .u8 y.grp, .slice C4 y.val.length e4], .bool true]) X := fun X hX => hl true X hX
          clear hda hl
          go_region_held3 (fun X => Below w1.heap.size w1 X) (first | assumption | exact below_step (by assumption) (by assumption) | exact below_drew (by assumption) | exact below_made (by assumption) _ | (repeat (first | exact Below.refl _ _ | assumption | refine Below.setCell ?_ (Nat.le_refl _) _ | refine below_made ?_ _ | refine below_drew ?_)))
            (fail)
          all_goals
            go_wp2
            go_ret2
            exact ⟨HB.out.trans ((HW1.out.trans (((below_alloc (Below.refl _ _) _).drew).mono HW1.out.size)).mono HB.out.size), rfl⟩
        | none =>
          have hl10 := hda.lookN hxw.ix hxw.sub hdx
          clear hda
          go_region_held3 (fun X => Below w1.heap.size w1 X) (first | assumption | exact below_step (by assumption) (by assumption) | exact below_drew (by assumption) | exact below_made (by assumption) _ | (repeat (first | exact Below.refl _ _ | assumption | refine Below.setCell ?_ (Nat.le_refl _) _ | refine below_made ?_ _ | refine below_drew ?_)))
            (fail)
          all_goals
            have hb12 : Below w1.heap.size w1 ((w1.alloc (.cells #[.int .u16 0, .int .u8 0, .string { data := #[] }, .int .u8 0, .int .u8 0, .slice none 0 0, .slice none 0 0, .slice none 0 0, .int .u8 0, .int .u8 0, .slice none 0 0] 128)).drew) := (below_alloc (Below.refl _ _) _).drew
            generalize (w1.alloc (.cells #[.int .u16 0, .int .u8 0, .string { data := #[] }, .int .u8 0, .int .u8 0, .slice none 0 0, .slice none 0 0, .slice none 0 0, .int .u8 0, .int .u8 0, .slice none 0 0] 128)).drew = w2 at hb12 ⊢
            have HW2 := Aside0.mk (HW1.out.trans (hb12.mono HW1.out.size))
            have hda2 := HDA.out.below hb12
            have hrow2 := blk_below HROW.out hb12
            have hpl2 := blk_below HPL.out hb12
            have hbi : w.heap.size < w2.heap.size := hda2.items.lt
            have hne1 : wr.heap.size ≠ w.heap.size := fun e => by have := HB.out.size; have := (HD.out.choose_spec.choose_spec.choose_spec.choose_spec).items.lt; omega
            have hne2 : wr.heap.size + 1 ≠ w.heap.size := fun e => by have := HB.out.size; omega
            have hg0 : ∀ X, Fr (fun k => k = w.heap.size) w2 X → X.cell? ⟨w.heap.size + 1 + 1, 0, none⟩ = some (.map (some w.heap.size)) := fun X hX => hX.cell (blk_cell hda2.blk 0) (fun e => absurd (show w.heap.size + 1 + 1 = w.heap.size from e) (by omega))
            have hq0 : ∀ X, Fr (fun k => k = w.heap.size) w2 X → X.cell? ⟨wr.heap.size + 1, 0, none⟩ = some (.int .u16 x.ix) := fun X hX => hX.cell (blk_cell hpl2 0) hne2
            have hq1 : ∀ X, Fr (fun k => k = w.heap.size) w2 X → X.cell? ⟨wr.heap.size + 1, 1, none⟩ = some (.int .u8 x.sub) := fun X hX => hX.cell (blk_cell hpl2 1) hne2
            have K : ∀ X, Fr (fun k => k = w.heap.size) w2 X → X.heap[wr.heap.size]? = _ := fun X hX => (hX.block _ (blk_lt hrow2) hne1).trans hrow2
            have z0 := fun X hX => (held10 (K X hX)).1
            have z1 := fun X hX => (held10 (K X hX)).2.1
            have z2 := fun X hX => (held10 (K X hX)).2.2.1
            have z3 := fun X hX => (held10 (K X hX)).2.2.2.1
            have z4 := fun X hX => (held10 (K X hX)).2.2.2.2.1
            have z5 := fun X hX => (held10 (K X hX)).2.2.2.2.2.1
            have z6 := fun X hX => (held10 (K X hX)).2.2.2.2.2.2.1
            have z7 := fun X hX => (held10 (K X hX)).2.2.2.2.2.2.2.1
            have z8 := fun X hX => (held10 (K X hX)).2.2.2.2.2.2.2.2.1
            have z9 := fun X hX => (held10 (K X hX)).2.2.2.2.2.2.2.2.2.1
            have HEV := Aside0.mk fun X (hX : Fr (fun k => k = w.heap.size) w2 X) => EnV.fr (show EnV w2 (.agg #[.int .u16 x.ix, .int .u8 x.sub, .string x.name, .int .u8 x.ty, .int .u8 x.rt, .slice A1 x.df.length a1, .slice A2 x.lo.length a2, .slice A3 x.hi.length a3, .int .u8 x.tag, .int .u8 x.grp]) x from EnV.below (w := wr) ⟨_, _, _, rfl, HG.out.1, HG.out.2.1, HG.out.2.2⟩ HW2.out) hX (fun p y hp => hda2.noByte p y (.inr hp))
            have HTB := Aside0.mk fun X (hX : Fr (fun k => k = w.heap.size) w2 X) => tbl_fr (TblB.below HT.out (HB.out.trans (HW2.out.mono HB.out.size))) hX
            have HDA2 := Aside0.mk hda2
            have HROW2 := Aside0.mk hrow2
            have HB12 := Aside0.mk hb12
            have hS0' : Fr (fun k => k = w.heap.size) w2 w2.drew := Fr.drew _ _
            clear hda2 hrow2 hpl2 K cg0 cp0 cp1 hS0 hl10 hb12
            go_wp2
            go_region_held3 (fun X => Fr (fun k => k = w.heap.size) w2 X) (assumption)
              (first
                | (go_at_call 71; refine (lend_any x _ _ (HEV.out _ (by assumption))).mono ?_; rintro e w4 ⟨v4, rfl, hv4, hb4, -⟩; have HV4 := Aside0.mk hv4; obtain ⟨_, _, _, rfl, ⟨B1, b1, rfl, -⟩, ⟨B2, b2, rfl, -⟩, ⟨B3, b3, rfl, -⟩⟩ := hv4; have hS4 : Fr (fun k => k = w.heap.size) w2 w4 := hS0'.trans (Fr.of_below hb4); have HB4 := Aside0.mk hb4; clear hb4)
                | (go_at_call 72; refine (first_any x hxw _ _ (HEV.out _ hS4) (HTB.out _ hS4)).mono ?_; rintro e w5 ⟨v5, rfl, hv5, hb5⟩; have HV5 := Aside0.mk hv5; obtain ⟨B4, b4, rfl, -⟩ := hv5; have hS5 : Fr (fun k => k = w.heap.size) w2 w5 := hS4.trans (Fr.of_below hb5); obtain ⟨o, hrun, f', hd6, hF6⟩ := (((HDA2.out.below (Below.refl _ _).drew).below HB4.out).below hb5).store hxw.ix hxw.sub (.agg #[.int .u16 x.ix, .int .u8 x.sub, .string x.name, .int .u8 x.ty, .int .u8 x.rt, .slice B1 x.df.length b1, .slice B2 x.lo.length b2, .slice B3 x.hi.length b3, .int .u8 x.tag, .int .u8 x.grp, .slice B4 (firstC x).length b4]) ⟨x, firstC x⟩ (item_of (HV4.out.below hb5) HV5.out); have hS6 := hS5.trans hF6; have HD6 := Aside0.mk hd6; have HS6 := Aside0.mk hS6; generalize ChangeMaps.setBlock w5 _ o = w6 at hrun HD6 HS6 hS6; clear hb5 hd6 hF6))
            have hS6' := HS6.out
            have hrow6 : w6.heap[wr.heap.size]? = _ := (hS6'.block _ (blk_lt HROW2.out) hne1).trans HROW2.out
            have hi6 := blk_cell hrow6 0
            have hda6 := HD6.out
            have hda6d := hda6.below (Below.refl w6.heap.size w6).drew
            have hcnt : (Instr.lookup 123 (.map (some (w.heap.size + 1))) (.int .u16 x.ix) false).run Tryd.prog w6.drew = .ok (.int .i64 (d.S x.ix)) w6.drew := hda6.lookS hxw.ix w6.drew (Below.refl _ _).drew
            have hSb := newS_le l k x.ix
            rw [← HP.out.2] at hSb
            have hk4 : d.S x.ix + 1 ≤ 2000 ∧ 0 ≤ d.S x.ix := by omega
            have hsum : IntKind.i64.wrap (d.S x.ix + 1) = d.S x.ix + 1 := by
              rw [i64_w]
              unfold wrap64
              omega
            obtain ⟨o2, hrun2, f2, hd7, hF7⟩ := hda6d.storeS hxw.ix (d.S x.ix + 1)
            generalize ChangeMaps.setBlock w6.drew (w.heap.size + 1) o2 = w7 at hrun2 hd7 hF7
            have hne3 : wr.heap.size ≠ w.heap.size + 1 := fun e => by have := hda6.base; have := (HD.out.choose_spec.choose_spec.choose_spec.choose_spec).subs.lt; omega
            have hg1 : ∀ X, Fr (fun k => k = w.heap.size + 1) w6 X → X.cell? ⟨w.heap.size + 1 + 1, 1, none⟩ = some (.map (some (w.heap.size + 1))) := fun X hX => hX.cell (blk_cell hda6.blk 1) (fun e => absurd (show w.heap.size + 1 + 1 = w.heap.size + 1 from e) (by omega))
            have hi0 : ∀ X, Fr (fun k => k = w.heap.size + 1) w6 X → X.cell? ⟨wr.heap.size, 0, none⟩ = some (.int .u16 x.ix) := fun X hX => hX.cell hi6 hne3
            have hS7 : Fr (fun k => k = w.heap.size + 1) w6 w7 := (Fr.drew _ _).trans hF7
            have hS70 : Fr (fun k => k = w.heap.size + 1) w6 w6.drew := Fr.drew _ _
            have HD7 := Aside0.mk hd7
            have HB7 := Aside0.mk (show Below w.heap.size w w7 from (HB.out.trans (HW2.out.mono HB.out.size)).trans ((hS6'.below (B := w.heap.size) (fun j hj => ⟨Nat.lt_trans hj hbi, fun e => absurd (show j = w.heap.size from e) (by omega)⟩)).trans (hS7.below (B := w.heap.size) (fun j hj => ⟨by have := hS6'.size; omega, fun e => absurd (show j = w.heap.size + 1 from e) (by omega)⟩))))
            clear hrow6 hi6 hda6 hda6d hSb hk4 hd7 hF7 hg0 hq0 hq1 z0 z1 z2 z3 z4 z5 z6 z7 z8 z9 hrun hS6 hS6' hS5 hS4 hS0'
            go_wp2
            go_region_held3 (fun X => Fr (fun k => k = w.heap.size + 1) w6 X) (assumption)
              (fail)
            go_wp2
            go_roundw
            case rel =>
              refine ⟨k + 1, d.add x, by omega, by go_num, ⟨?_, ?_⟩, ⟨⟨_, _, _, _, add_eq d x ▸ HD7.out⟩⟩, HB7⟩
              · rw [HP.out.1, HDR.out]
                simp [newC, hm, hdx]
              · rw [List.take_add_one, HX.out, List.foldl_append, ← HP.out.2]
                rfl
            case measure => simp [intOf]; omega
      · have HM := Aside0.mk (decide_eq_false hm)
        have hrr : r = (80, none) := by
          rw [← HR.out]
          unfold newR
          rw [if_neg (by have := HN.out; omega), HP.out.1, HDR.out]
          simp [newC, hm]
        subst hrr
        go_wp2_with (go_at_call 70; refine (dmay_any x hxw _ _ (EnV.below (w := wr) ⟨_, _, _, rfl, HG.out.1, HG.out.2.1, HG.out.2.2⟩ HA2.out) ((HT.out.below HB.out).below HA2.out)).mono ?_; rw [HM.out]; rintro e w1 ⟨rfl, hb⟩; have HW1 := Aside0.mk (below_step HA2.out hb); clear hb)
        go_ret2
        exact ⟨HB.out.trans (HW1.out.mono HB.out.size), rfl⟩
    · obtain rfl : k = n := by omega
      have hrr : r = (0, some d) := by
        rw [← HR.out]
        unfold newR
        rw [if_neg (by have := HN.out; omega), HP.out.1, List.drop_of_length_le (by have := HN.out; omega)]
        rfl
      subst hrr
      go_wp2
      go_ret2
      exact ⟨HB.out, w.heap.size + 1 + 1, w.heap.size, w.heap.size + 1, rfl, by omega, by omega, by omega, HD.out⟩
end Go.Proofs.YtokebpeplopjhaaDoor.Mp
