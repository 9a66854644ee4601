/- FrameKnown: the texts and frames about each bound. -/
import Derived.Test.YtmgabmcfgnlpfaaDoorFmk
import Derived.Test.YtmgabmcfgnlpfaaDoorLawFrameBack
import Derived.Deep.Cut
import Derived.Deep.DeepCutAuto
import Derived.Deep.RegionHeld3
namespace Go.Proofs.YtmgabmcfgnlpfaaDoor.Frm
open Go.RowKit Go.Proofs.YtmgabmcfgnlpfaaDoorW.PrintWords Go.Proofs.YtmgabmcfgnlpfaaDoorW.PrintMore Go.Proofs.YtmgabmcfgnlpfaaDoorW.PrintLast

/-- A block of texts. -/
def isStr (v : Value) : Bool := match v with | .string _ => true | _ => false
def Strs (n : Nat) (t : TypeId) (o : Option Obj) : Prop := ∃ cs : Array Value, o = some (.cells cs t (0, 0)) ∧ cs.size = n ∧ ∀ k, k < n → ∃ s, cs[k]? = some (.string s)
theorem strs_of {n : Nat} {t : TypeId} {cs : Array Value} (h : cs.size = n) (ha : cs.toList.all isStr = true) : Strs n t (some (.cells cs t (0, 0))) := by
  refine ⟨cs, rfl, h, fun k hk => ?_⟩
  have hk' : k < cs.size := by omega
  have h1 := List.all_eq_true.1 ha cs[k] (by simp)
  rw [Array.getElem?_eq_getElem hk']
  revert h1
  cases cs[k] <;> simp [isStr]
theorem strs_cell {W : World} {g n : Nat} {t : TypeId} (h : Strs n t (W.heap[g]?)) {k : Nat} (hk : k < n) : ∃ s, W.cell? ⟨g, k, none⟩ = some (.string s) := by
  obtain ⟨cs, h1, h2, h3⟩ := h
  obtain ⟨s, hs⟩ := h3 k hk
  exact ⟨s, by rw [blk_cell h1 k, hs]⟩
theorem strs_below {W X : World} {g n : Nat} {t : TypeId} (h : Strs n t (W.heap[g]?)) (hb : Below W.heap.size W X) : Strs n t (X.heap[g]?) := by
  obtain ⟨cs, h1, h2, h3⟩ := h
  exact ⟨cs, blk_below h1 hb, h2, h3⟩
/-- A block of identifiers. -/
def isNum (v : Value) : Bool := match v with | .int .u16 n => decide (0 ≤ n) | _ => false
def Nums (n : Nat) (t : TypeId) (o : Option Obj) : Prop := ∃ cs : Array Value, o = some (.cells cs t (0, 0)) ∧ cs.size = n ∧ ∀ k, k < n → ∃ x : Int, 0 ≤ x ∧ cs[k]? = some (.int .u16 x)
theorem nums_of {n : Nat} {t : TypeId} {cs : Array Value} (h : cs.size = n) (ha : cs.toList.all isNum = true) : Nums n t (some (.cells cs t (0, 0))) := by
  refine ⟨cs, rfl, h, fun k hk => ?_⟩
  have hk' : k < cs.size := by omega
  have h1 := List.all_eq_true.1 ha cs[k] (by simp)
  rw [Array.getElem?_eq_getElem hk']
  revert h1
  generalize cs[k] = v
  intro h1
  unfold isNum at h1
  split at h1
  · exact ⟨_, of_decide_eq_true h1, rfl⟩
  · cases h1
theorem nums_cell {W : World} {g n : Nat} {t : TypeId} (h : Nums n t (W.heap[g]?)) {k : Nat} (hk : k < n) : ∃ x : Int, 0 ≤ x ∧ W.cell? ⟨g, k, none⟩ = some (.int .u16 x) := by
  obtain ⟨cs, h1, h2, h3⟩ := h
  obtain ⟨s, h0, hs⟩ := h3 k hk
  exact ⟨s, h0, by rw [blk_cell h1 k, hs]⟩
theorem nums_lt {W : World} {g n : Nat} {t : TypeId} (h : Nums n t (W.heap[g]?)) : g < W.heap.size := by
  obtain ⟨cs, h1, _⟩ := h
  exact blk_lt h1
theorem nums_below {W X : World} {g n : Nat} {t : TypeId} (h : Nums n t (W.heap[g]?)) (hb : Below W.heap.size W X) : Nums n t (X.heap[g]?) := by
  obtain ⟨cs, h1, h2, h3⟩ := h
  exact ⟨cs, blk_below h1 hb, h2, h3⟩
theorem wf_7 (i n x7 : Int) (hi : 0 ≤ i) (h7 : 0 ≤ x7 ∧ x7 < 256) (b : Bool) : Wf ⟨i, n, [0, 0, 0, 0, 0, 0, 0, x7], b⟩ := ⟨rfl, by simpa using h7, hi⟩
theorem wf_0 : Wf ⟨0, 0, [0, 0, 0, 0, 0, 0, 0, 0], false⟩ := ⟨rfl, by decide, by decide⟩
set_option maxHeartbeats 4000000 in
set_option maxRecDepth 100000 in
theorem known_any (w : World) :
    Calls Tryd.prog 6 #[] w fun e w' => e = .returned (.bool true) ∧ Below w.heap.size w w' := by
  go_enter Tryd.func6, Tryd.ntmps6
  go_wp2
  go_loopw [12] (fun j wr => ∃ k : Nat, k ≤ 23 ∧ j = .int .i64 k ∧ Aside0 (Strs 23 9 (wr.heap[w.heap.size]?)) ∧ Aside0 (Below w.heap.size w wr)) (fun j _ => 23 - (intOf j).toNat)
  case atStart =>
    refine ⟨0, Nat.zero_le _, rfl, ⟨?_⟩, ⟨below_alloc (Below.refl _ _) _⟩⟩
    rw [World.alloc_heap_new]
    exact strs_of rfl rfl
  case round =>
    obtain ⟨k, hk, rfl, HS, HW⟩ := hrel
    by_cases hlt : k < 23
    · obtain ⟨s, hs⟩ := strs_cell HS.out hlt
      go_wp2_with (first
        | (go_at_call 3; refine (reads_any s _).mono ?_; rintro e w1 ⟨rfl, hb⟩; have HS1 := Aside0.mk (strs_below HS.out hb); have HW1 := Aside0.mk (HW.out.trans (hb.mono HW.out.size)); clear hb)
        | (go_at_call 4; refine (frameBack.back_all _ _ _ _ _ _ _ _ _ _ _ _ _ _ _ _ _ _ _ _ _ _ _ _ _ _ _ _ _ _ _ _ _ s _ wf_0).mono ?_; rintro e w2 ⟨rfl, hb⟩; have HS2 := Aside0.mk (strs_below HS1.out hb); have HW2 := Aside0.mk (HW1.out.trans (hb.mono HW1.out.size)); clear hb))
      refine ⟨⟨k + 1, by omega, by simp, HS2, HW2⟩, by simp [intOf]; omega⟩
    · obtain rfl : k = 23 := by omega
      clear hlt hk
      obtain ⟨wa, rfl⟩ : ∃ wa, wa = wr := ⟨_, rfl⟩
      have HW1 := Aside0.mk HW.out
      clear HS HW
      rw [show ((23 : Nat) : Int) = 23 from rfl]
      go_wp2
      go_loopw [30] (fun j wr => ∃ k : Nat, k ≤ 6 ∧ j = .int .i64 k ∧ Aside0 (Nums 6 22 (wr.heap[wa.heap.size]?)) ∧ Aside0 (Below w.heap.size w wr)) (fun j _ => 6 - (intOf j).toNat)
      case atStart =>
        refine ⟨0, Nat.zero_le _, rfl, ⟨?_⟩, ⟨HW1.out.alloc HW1.out.size _⟩⟩
        rw [World.alloc_heap_new]
        exact nums_of rfl rfl
      case round =>
        obtain ⟨k, hk, rfl, HS, HW⟩ := hrel
        obtain ⟨wk, rfl⟩ : ∃ wk, wk = wr := ⟨_, rfl⟩
        by_cases hlt : k < 6
        · obtain ⟨id, hid, hs⟩ := nums_cell HS.out hlt
          go_wp2
          rw [decide_eq_true (show (k : Int) < 6 by omega)]
          go_loopw [5] (fun j wr => ∃ n : Int, -1 ≤ n ∧ n ≤ 10 ∧ j = .int .i64 n ∧ Aside0 (Nums 6 22 (wr.heap[wa.heap.size]?)) ∧ Aside0 (Below w.heap.size w wr)) (fun j _ => (10 - intOf j).toNat)
          case atStart =>
            exact ⟨-1, by omega, by omega, rfl, HS, HW⟩
          case round =>
            obtain ⟨n, hn1, hn2, rfl, HSn, HWn⟩ := hrel
            obtain ⟨wn, rfl⟩ : ∃ wn, wn = wr := ⟨_, rfl⟩
            by_cases hlt2 : n ≤ 9
            · have hnlt : wa.heap.size < wn.heap.size := nums_lt HSn.out
              have hwn : w.heap.size ≤ wn.heap.size := HWn.out.size
              go_wp2
              go_loopw [6, 7] (fun v j wr => ∃ (q : Nat) (l : List Int), (q : Int) ≤ max n 0 ∧ l.length = q ∧ (∀ x ∈ l, 0 ≤ x ∧ x < 256) ∧ j = .int .i64 q ∧ Aside0 (Kd.R kB 5 wr wn.heap.size (fun k => wn.heap.size ≤ k) v l) ∧ Aside0 (Below wn.heap.size wn wr)) (fun _ j _ => (n - intOf j).toNat)
              case atStart =>
                exact ⟨0, [], by omega, rfl, (by simp), rfl, ⟨Kd.R_nil _ _ _ _ _⟩, ⟨Below.refl _ _⟩⟩
              case round =>
                obtain ⟨q, l, hq, hl, hx, rfl, HO, HB⟩ := hrel
                by_cases hlt3 : (q : Int) < n
                · have hsz := HB.out.size
                  go_wp2_with ((with_reducible refine gate_builtin (b := .append) (xs := #[.tmp 43, .tmp 47]) rfl ?_); at_builtin; refine Kd.R_append kB (w0 := wn) wn.heap.size rfl (.tmp 43) (.tmp 47) 36 5 (.int .u8 0) 1 rfl Tryd.underlying36 info_u8 rfl (by decide) (by omega) _ l _ [.int .u8 _] (fun k => wn.heap.size ≤ k) (fun _ => False) rfl rfl rfl (fun _ hk => hk.elim) (fun k hk => by omega) HO.out HB.out hsz (by omega) ?_; intro v1 w2 hown hb hg hat; have HO2 := Aside0.mk hown; have HB2 := Aside0.mk hb; clear hown hb hg hat)
                  refine ⟨⟨q + 1, l ++ [((q : Int) + 250) % 256], by omega, ?_, ?_, by simp, HO2, HB2⟩, by simp [intOf]; omega⟩
                  · simp; omega
                  · intro x hx'
                    rcases List.mem_append.1 hx' with hx' | hx'
                    · exact hx x hx'
                    · have e := List.mem_singleton.1 hx'
                      subst e
                      omega
                · obtain ⟨A1, c1, rfl, hc1, hC1⟩ := Kd.R_reads HO.out
                  have HC1 := Aside0.mk hC1
                  clear hC1
                  have HL := Aside0.mk hx
                  subst hl
                  obtain ⟨x7, h7⟩ : ∃ x7, n.tdiv 8 % 256 = x7 := ⟨_, rfl⟩
                  have HB1 := Aside0.mk (HWn.out.trans (HB.out.mono hwn))
                  have HW := Aside0.mk (wf_7 id n x7 hid (by rw [← h7]; omega))
                  have HN1 := Aside0.mk (nums_below HSn.out HB.out)
                  go_wp2_with (first
                    | (go_at_call 5; have hg := HB1.out; simp only [h7]; refine (makes_all id A1 c1 l n id n 0 0 0 0 0 0 0 x7 false _ (Kd.C_below HC1.out (two_below wr _ _ 0)) hid HL.out (HW.out false)).mono ?_; rintro e w2 ⟨rfl, hb⟩; have HC2 := Aside0.mk (Kd.C_below HC1.out ((two_below wr _ _ 0).trans (hb.mono (two_below wr _ _ 0).size))); have HF2 := Aside0.mk (blk_below (two_new1 wr _ _ 0) hb); have HG2 := Aside0.mk (blk_below (two_new2 wr _ _ 0) hb); have HN2 := Aside0.mk (nums_below HN1.out ((two_below wr _ _ 0).trans (hb.mono (two_below wr _ _ 0).size))); have HB2 := Aside0.mk (HB1.out.trans (((two_below wr _ _ 0).trans (hb.mono (two_below wr _ _ 0).size)).mono HB1.out.size)); clear hb hg HB1; obtain ⟨d0, d1, d2, d3, d4, d5, d6, d7, d8, d9, d10, _⟩ := fm_lit HG2.out)
                    | (go_at_call 5; refine (makes_all id A1 c1 l n id n 0 0 0 0 0 0 0 x7 true _ HC2.out hid HL.out (HW.out true)).mono ?_; rintro e w3 ⟨rfl, hb⟩; have HF3 := Aside0.mk (blk_below HF2.out hb); have HG3 := Aside0.mk (blk_below HG2.out hb); have HN3 := Aside0.mk (nums_below HN2.out hb); have HB3 := Aside0.mk (HB2.out.trans (hb.mono HB2.out.size)); clear hb d0 d1 d2 d3 d4 d5 d6 d7 d8 d9 d10; obtain ⟨d0, d1, d2, d3, d4, d5, d6, d7, d8, d9, d10, _⟩ := fm_lit HG3.out; obtain ⟨f0, f1, f2, f3, f4, f5, f6, f7, f8, f9, f10, _⟩ := fm_lit HF3.out)
                    | (go_at_call 4; have hg := HF3.out; refine (frameBack.back_all id n 0 0 0 0 0 0 0 x7 false id n 0 0 0 0 0 0 0 x7 true id n 0 0 0 0 0 0 0 0 false _ _ (HW.out false)).mono ?_; rintro e w4 ⟨rfl, hb⟩; have HF4 := Aside0.mk (blk_below HF3.out hb); have HG4 := Aside0.mk (blk_below HG3.out hb); have HN4 := Aside0.mk (nums_below HN3.out hb); have HB4 := Aside0.mk (HB3.out.trans (hb.mono HB3.out.size)); clear hb hg HF3 d0 d1 d2 d3 d4 d5 d6 d7 d8 d9 d10 f0 f1 f2 f3 f4 f5 f6 f7 f8 f9 f10; obtain ⟨d0, d1, d2, d3, d4, d5, d6, d7, d8, d9, d10, _⟩ := fm_lit HG4.out; obtain ⟨f0, f1, f2, f3, f4, f5, f6, f7, f8, f9, f10, _⟩ := fm_lit HF4.out)
                    | (go_at_call 4; refine (frameBack.back_all id n 0 0 0 0 0 0 0 x7 true id n 0 0 0 0 0 0 0 x7 false id n 0 0 0 0 0 0 0 x7 false _ _ (HW.out true)).mono ?_; rintro e w5 ⟨rfl, hb⟩; have HN5 := Aside0.mk (nums_below HN4.out hb); have HB5 := Aside0.mk (HB4.out.trans (hb.mono HB4.out.size)); clear hb))
                  refine ⟨⟨n + 1, by omega, by omega, by simp, HN5, HB5⟩, by simp [intOf]; omega⟩
            · go_wp2
              refine ⟨⟨k + 1, by omega, by simp, HSn, HWn⟩, by simp [intOf]; omega⟩
        · obtain rfl : k = 6 := by omega
          go_wp2_with (first
            | (go_at_call 5; have hg := HW.out; refine (makes_all 5 none 0 [] (-9223372036854775808) 0 (-9223372036854775808) 0 0 0 0 0 0 0 0 false _ (Rd_C (by simp) (fun h => by simp at h)) (by omega) (by simp) (wf_7 0 _ 0 (by omega) (by omega) false)).mono ?_; rintro e w2 ⟨rfl, hb⟩; have HB2 := Aside0.mk (HW.out.trans (hb.mono HW.out.size)); clear hb hg HW)
            | (go_at_call 5; refine (makes_all 5 none 0 [] 9223372036854775807 0 9223372036854775807 0 0 0 0 0 0 0 0 false _ (Rd_C (by simp) (fun h => by simp at h)) (by omega) (by simp) (wf_7 0 _ 0 (by omega) (by omega) false)).mono ?_; rintro e w3 ⟨rfl, hb⟩; have HB3 := Aside0.mk (HB2.out.trans (hb.mono HB2.out.size)); clear hb)
            | (go_at_call 9; refine (works_any _).mono ?_; rintro e w4 ⟨rfl, hb⟩; have HB4 := Aside0.mk (HB3.out.trans (hb.mono HB3.out.size)); clear hb))
          go_ret
          exact ⟨rfl, HB4.out⟩
end Go.Proofs.YtmgabmcfgnlpfaaDoor.Frm
