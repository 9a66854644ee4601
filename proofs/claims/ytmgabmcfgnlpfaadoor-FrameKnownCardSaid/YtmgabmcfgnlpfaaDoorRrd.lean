/- ref03.Read. -/
import Derived.Test.YtmgabmcfgnlpfaaDoorRwr
import Derived.StillTailTactics
import Derived.Laws.Runes
namespace Go.Proofs.YtmgabmcfgnlpfaaDoor.Frm
open Go.RowKit Go.Proofs.YtmgabmcfgnlpfaaDoorW.PrintWords Go.Proofs.YtmgabmcfgnlpfaaDoorW.PrintMore Go.Proofs.YtmgabmcfgnlpfaaDoorW.PrintLast

def idK (L : List UInt8) : Nat → Int
  | 0 => 0
  | k + 1 => idK L k * 16 + vz (L[k]?.getD 0)
theorem idK_bound (L : List UInt8) (k : Nat) (h : k ≤ 3) : 0 ≤ idK L k ∧ idK L k < 4096 := by
  have h0 := vz_bound (L[0]?.getD 0)
  have h1 := vz_bound (L[1]?.getD 0)
  have h2 := vz_bound (L[2]?.getD 0)
  match k, h with
  | 0, _ => simp [idK]
  | 1, _ => simp only [idK]; omega
  | 2, _ => simp only [idK]; omega
  | 3, _ => simp only [idK]; omega
theorem idK_three (L : List UInt8) : idK L 3 = (vz (L[0]?.getD 0) * 16 + vz (L[1]?.getD 0)) * 16 + vz (L[2]?.getD 0) := by
  simp only [idK]
  omega
theorem vz_max (b : UInt8) : vz b = max 0 (hexV b) := by
  unfold vz
  split <;> omega
theorem get_list (s : ByteArray) (k : Nat) (h : k < s.size) : s[k] = s.data.toList[k]?.getD 0 := by
  rw [List.getElem?_eq_getElem (by rw [← Lib.size_eq]; exact h)]
  rfl
theorem rread_res (tmps : Array Value) (w : World) (g : Nat) (cs : Array Value) (x : Value) (hp : tmps.getD 2 undef = .pointer (some ⟨g, 0, none⟩)) (ht : tmps.getD 3 undef = x) (hc : w.heap[g]? = some (.cells cs 25 (0, 0))) (hs : cs.size = 11) :
    (results Tryd.f8 tmps).run Tryd.prog w = .ok (.tuple #[.agg cs, x]) w := by
  have hi : (Tryd.prog.info? 25).map (·.size) = some 11 := by kernel_rfl
  rw [← ht]
  exact results_ct rfl tmps w g _ cs _ _ hp hc Tryd.underlying25 rfl (by rw [hi, hs])
def gdK (L : List UInt8) (k : Nat) : List Int := (List.range 8).map fun i => if i < k then vz (L[4 + 2 * i]?.getD 0) * 16 + vz (L[5 + 2 * i]?.getD 0) else 0
theorem gdK_len (L : List UInt8) (k : Nat) : (gdK L k).length = 8 := by simp [gdK]
theorem gdK_succ (L : List UInt8) (k : Nat) (h : k < 8) : gdK L (k + 1) = (gdK L k).set k (vz (L[4 + 2 * k]?.getD 0) * 16 + vz (L[5 + 2 * k]?.getD 0)) := by
  apply List.ext_getElem?
  intro j
  rw [List.getElem?_set]
  unfold gdK
  simp only [List.getElem?_map, List.length_map, List.length_range]
  by_cases hj : j < 8
  · rw [List.getElem?_range hj]
    simp only [Option.map_some]
    by_cases hjk : k = j
    · subst hjk
      simp [h]
    · rw [if_neg hjk]
      congr 1
      by_cases hlt : j < k
      · rw [if_pos (by omega), if_pos hlt]
      · rw [if_neg (by omega), if_neg hlt]
  · rw [List.getElem?_eq_none (l := List.range 8) (by simp; omega), if_neg (by omega)]
    rfl
theorem gdK_byte (L : List UInt8) (k : Nat) : ∀ x ∈ gdK L k, 0 ≤ x ∧ x < 256 := by
  intro x hx
  unfold gdK at hx
  obtain ⟨i, _, rfl⟩ := List.mem_map.1 hx
  have h1 := vz_bound (L[4 + 2 * i]?.getD 0)
  have h2 := vz_bound (L[5 + 2 * i]?.getD 0)
  split <;> omega
theorem str_beq {a b : ByteArray} (h : a = b) : (a.toList == b.toList) = true := by
  rw [h]
  exact beq_self_eq_true _
theorem str_bne {a b : ByteArray} (h : ¬ a = b) : (a.toList == b.toList) = false := by
  refine beq_eq_false_iff_ne.2 fun e => h ?_
  rw [Lib.toList_data, Lib.toList_data] at e
  exact ByteArray.ext (Array.toList_inj.1 e)
theorem guess_none {s : ByteArray} {L : List UInt8} {g : Fm} {t : ByteArray} (hL : s.data.toList = L) (hg : guessF L = g) (ht : strOf (wrF g) = t) (h : ¬ (Rt g ∧ t = s)) : Reads L fm0 30 := by
  refine reads_none fun g' hw hr he => h ?_
  have h1 := (guess_of hw hr).1
  rw [he, hg] at h1
  subst h1
  refine ⟨hr, ?_⟩
  rw [← ht, he, ← hL, str_of]
theorem guess_good {s : ByteArray} {L : List UInt8} {g : Fm} {t : ByteArray} (hL : s.data.toList = L) (ht : strOf (wrF g) = t) (hw : Wf g) (hr : Rt g) (h : t = s) : Reads L g 0 := by
  refine .inl ⟨hw, hr, ?_, rfl⟩
  rw [← hL, ← h, ← ht]
  rfl
theorem after_two {w wr w' : World} {o1 o : Obj} (hsz : wr.heap.size = w.heap.size + 1) (h0 : wr.heap[w.heap.size]? = some o1) (hW : Below w.heap.size w wr) (hbw : Below (wr.alloc o).heap.size (wr.alloc o) w') :
    w'.heap[w.heap.size]? = some o1 ∧ w'.heap[w.heap.size + 1]? = some o ∧ Below w.heap.size w w' := by
  refine ⟨blk_below (blk_alloc h0 o) hbw, ?_, ?_⟩
  · have := blk_below (World.alloc_heap_new wr o) hbw
    rwa [hsz] at this
  · exact (hW.alloc (by omega) o).trans (hbw.mono (by simp; omega))
set_option maxHeartbeats 2000000 in
set_option maxRecDepth 100000 in
theorem rread_long (s : ByteArray) (w : World) (hbad : s.size < 4 ∨ 20 < s.size) :
    Calls Tryd.prog 8 #[.string s] w fun e w' => (∃ f k, e = .returned (.tuple #[.agg (Fm.cells f), .int .i64 k]) ∧ Reads s.data.toList f k) ∧ Below w.heap.size w w' := by
  have HN := Aside0.mk (show Reads s.data.toList fm0 30 from reads_none fun g hw hr hg => by
    have h := guess_of hw hr
    rw [hg] at h
    rw [Lib.size_eq] at hbad
    omega)
  go_enter Tryd.func8, Tryd.ntmps8
  go_wp2
  all_goals
    refine bodyPost_ret (rread_res _ _ w.heap.size fm0.cells (.int .i64 30) rfl rfl ?_ rfl) rfl ?_
    · exact World.alloc_heap_new w _
    · exact ⟨⟨fm0, 30, rfl, HN.out⟩, below_alloc (Below.refl _ _) _⟩
set_option maxHeartbeats 2000000 in
set_option maxRecDepth 100000 in
theorem rread_ask (s : ByteArray) (w : World) (h6a : s.size = 6) (h82 : s.data.toList[4]?.getD 0 = 82) :
    Calls Tryd.prog 8 #[.string s] w fun e w' => (∃ f k, e = .returned (.tuple #[.agg (Fm.cells f), .int .i64 k]) ∧ Reads s.data.toList f k) ∧ Below w.heap.size w w' := by
  obtain ⟨L, hL⟩ : ∃ L, s.data.toList = L := ⟨_, rfl⟩
  rw [hL]
  have HGL := Aside0.mk (show ∀ k (h : k < s.size), s[k] = L[k]?.getD 0 by intro k h; rw [← hL]; exact get_list s k h)
  have HL := Aside0.mk hL
  rw [hL] at h82
  clear hL
  have H4 := Aside0.mk (show 4 ≤ s.size by omega)
  have H82 := Aside0.mk h82
  clear h82
  go_enter Tryd.func8, Tryd.ntmps8
  go_wp2
  go_loopw [4, 5] (fun id j wr => ∃ k : Nat, k ≤ 3 ∧ j = .int .i64 k ∧ (∃ z : Int, id = .int .i64 z ∧ Aside0 (z = idK L k)) ∧ Aside0 (wr.heap[w.heap.size]? = some (.cells (Fm.cells fm0) 25 (0, 0))) ∧ Aside0 (Below w.heap.size w wr) ∧ wr.heap.size = w.heap.size + 1) (fun _ j _ => 3 - (intOf j).toNat)
  case atStart =>
    exact ⟨0, Nat.zero_le _, rfl, ⟨0, rfl, ⟨rfl⟩⟩, ⟨World.alloc_heap_new w _⟩, ⟨below_alloc (Below.refl _ _) _⟩, by simp⟩
  case round =>
    obtain ⟨k, hk, rfl, ⟨z, rfl, HZ⟩, HB, HW, hsz⟩ := hrel
    have hzb := idK_bound L k hk
    rw [← HZ.out] at hzb
    by_cases hlt : k < 3
    · have hks : k < s.size := by have := H4.out; omega
      have hksi : (k : Int) < (s.size : Int) := by omega
      have hg := HGL.out k hks
      have HST := Aside0.mk (show idK L (k + 1) = z * 16 + max 0 (hexV (L[k]?.getD 0)) by rw [idK, ← HZ.out, vz_max])
      generalize L[k]?.getD 0 = c at hg HST
      have hv := vz_bound c
      rw [vz_max] at hv
      go_wp2_with (go_at_call 26; refine (value_any c _).mono ?_; rintro e w' ⟨rfl, rfl⟩)
      exact ⟨⟨k + 1, by omega, by simp, ⟨_, rfl, ⟨HST.out.symm⟩⟩, HB, HW, hsz⟩, by simp [intOf]; omega⟩
    · have e3 : k = 3 := by omega
      obtain rfl := e3
      have h6b := H82.out
      have hg4 := HGL.out 4 (by omega)
      rw [h6b] at hg4
      have hg5 := HGL.out 5 (by omega)
      have hlen : L.length = 6 := by rw [← HL.out, ← Lib.size_eq, h6a]
      have HG := Aside0.mk (show guessF L = ⟨z, max 0 (hexV (L[5]?.getD 0)), [0, 0, 0, 0, 0, 0, 0, 0], true⟩ by
        rw [guessF, if_pos ⟨hlen, h6b⟩, HZ.out, idK_three, vz_max (L[5]?.getD 0)])
      have hv := vz_bound (L[5]?.getD 0)
      rw [vz_max] at hv
      clear h6b hlen
      generalize L[5]?.getD 0 = c at hg5 HG hv
      have hwf : Wf ⟨z, max 0 (hexV c), [0, 0, 0, 0, 0, 0, 0, 0], true⟩ := ⟨rfl, by simp, hzb.1⟩
      obtain ⟨t, ht⟩ : ∃ t, strOf (wrF ⟨z, max 0 (hexV c), [0, 0, 0, 0, 0, 0, 0, 0], true⟩) = t := ⟨_, rfl⟩
      have HWR := fun W => rwrite_any z (max 0 (hexV c)) 0 0 0 0 0 0 0 0 true W hwf
      rw [ht] at HWR
      have HT := Aside0.mk ht
      have HWF := Aside0.mk hwf
      have HSZ := Aside0.mk hsz
      clear ht hwf
      by_cases he : t = s
      · have HE := Aside0.mk he
        have hts : (t.toList == s.toList) = true := str_beq he
        clear he
        go_wp2_with (first
          | (go_at_call 26; refine (value_any c _).mono ?_; rintro e w' ⟨rfl, rfl⟩)
          | (go_at_call 19; refine (HWR _).mono ?_; rintro e w' ⟨(⟨hrt, rfl⟩ | ⟨hrt, rfl⟩), hbw⟩ <;> (clear HWR; obtain ⟨hb0, hb1, hb2⟩ := after_two HSZ.out HB.out HW.out hbw; obtain ⟨f0, f1, f2, f3, f4, f5, f6, f7, f8, f9, f10, _⟩ := fm_lit hb1; obtain ⟨e0, e1, e2, e3, e4, e5, e6, e7, e8, e9, e10, e11⟩ := fm_at hb0; have HB0 := Aside0.mk hb0; have HB2 := Aside0.mk hb2; have HRT := Aside0.mk hrt; clear hb0 hb1 hb2 hbw hrt)))
        · refine bodyPost_ret (rread_res _ _ w.heap.size (Fm.cells ⟨z, max 0 (hexV c), [0, 0, 0, 0, 0, 0, 0, 0], true⟩) (.int .i64 0) rfl rfl ?_ rfl) rfl ?_
          · rw [cells11]
            exact row_fm HB0.out ..
          · rw [cells11]
            exact ⟨⟨_, 0, rfl, guess_good HL.out HT.out HWF.out HRT.out HE.out⟩, below_cells (Nat.le_refl _) _ _ HB2.out⟩
        · refine bodyPost_ret (rread_res _ _ w.heap.size fm0.cells (.int .i64 30) rfl rfl ?_ rfl) rfl ?_
          · rw [cells11]
            exact row_fm HB0.out ..
          · rw [cells11]
            exact ⟨⟨fm0, 30, rfl, guess_none HL.out HG.out HT.out (fun h => HRT.out h.1)⟩, below_cells (Nat.le_refl _) _ _ HB2.out⟩
      · have HE := Aside0.mk he
        have hts : (t.toList == s.toList) = false := str_bne he
        clear he
        go_wp2_with (first
          | (go_at_call 26; refine (value_any c _).mono ?_; rintro e w' ⟨rfl, rfl⟩)
          | (go_at_call 19; refine (HWR _).mono ?_; rintro e w' ⟨(⟨hrt, rfl⟩ | ⟨hrt, rfl⟩), hbw⟩ <;> (clear HWR; obtain ⟨hb0, hb1, hb2⟩ := after_two HSZ.out HB.out HW.out hbw; obtain ⟨f0, f1, f2, f3, f4, f5, f6, f7, f8, f9, f10, _⟩ := fm_lit hb1; obtain ⟨e0, e1, e2, e3, e4, e5, e6, e7, e8, e9, e10, e11⟩ := fm_at hb0; have HB0 := Aside0.mk hb0; have HB2 := Aside0.mk hb2; have HRT := Aside0.mk hrt; clear hb0 hb1 hb2 hbw hrt)))
        all_goals
          refine bodyPost_ret (rread_res _ _ w.heap.size fm0.cells (.int .i64 30) rfl rfl ?_ rfl) rfl ?_
          · rw [cells11]
            exact row_fm HB0.out ..
          · rw [cells11]
            exact ⟨⟨fm0, 30, rfl, guess_none HL.out HG.out HT.out (fun h => HE.out h.2)⟩, below_cells (Nat.le_refl _) _ _ HB2.out⟩
end Go.Proofs.YtmgabmcfgnlpfaaDoor.Frm
