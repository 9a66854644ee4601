/- Make, Ask, Before, of both. -/
import Derived.Test.YtmgabmcfgnlpfaaDoorFrr
import Derived.Test.YtmgabmcfgnlpfaaDoorFrb
import Derived.Laws.IdiomCopy
namespace Go.Proofs.YtmgabmcfgnlpfaaDoor.Frm
open Go.RowKit Go.Proofs.YtmgabmcfgnlpfaaDoorW.PrintWords Go.Proofs.YtmgabmcfgnlpfaaDoorW.PrintMore Go.Proofs.YtmgabmcfgnlpfaaDoorW.PrintLast

/-- A row of bytes is read as a list. -/
def Rd (w : World) (A : Option Addr) (zs : List Int) : Prop :=
  0 < zs.length → ∃ ad, A = some ad ∧ ∀ j, j < zs.length → w.cell? (ad.add j) = some (.int .u8 (zs[j]?.getD 0))
theorem add_block (a : Addr) (i : Nat) : (a.add i).block = a.block := by unfold Addr.add; split <;> rfl
theorem Rd.below {w w' : World} {A : Option Addr} {zs : List Int} (h : Rd w A zs) (hb : Below w.heap.size w w') : Rd w' A zs := by
  intro hn
  obtain ⟨ad, e, hc⟩ := h hn
  exact ⟨ad, e, fun j hj => (hb.cell (World.block_lt_of_cell? _ _ (hc j hj))).trans (hc j hj)⟩
/-- The frame of an identifier and bytes. -/
def mkF (i : Int) (zs : List Int) : Fm := ⟨i, zs.length, zs ++ List.replicate (8 - zs.length) 0, false⟩
def mkOk (i : Int) (zs : List Int) : Prop := i ≤ 2047 ∧ zs.length ≤ 8
theorem mk_cells (i n : Int) (zs : List Int) (h : zs.length ≤ 8) : ((Fm.cells ⟨i, n, [0, 0, 0, 0, 0, 0, 0, 0], false⟩).toList.take 2 ++ zs.map (Value.int .u8) ++ (Fm.cells ⟨i, n, [0, 0, 0, 0, 0, 0, 0, 0], false⟩).toList.drop (2 + (zs.map (Value.int .u8)).length)).toArray = Fm.cells ⟨i, n, zs ++ List.replicate (8 - zs.length) 0, false⟩ := by
  match zs, h with
  | [], _ => rfl
  | [_], _ => rfl
  | [_, _], _ => rfl
  | [_, _, _], _ => rfl
  | [_, _, _, _], _ => rfl
  | [_, _, _, _, _], _ => rfl
  | [_, _, _, _, _, _], _ => rfl
  | [_, _, _, _, _, _, _], _ => rfl
  | [_, _, _, _, _, _, _, _], _ => rfl
theorem copy_into (W : World) (g c : Nat) (i n : Int) (A : Option Addr) (zs : List Int) (hl : zs.length ≤ 8) (h0 : W.heap[g]? = some (.cells (Fm.cells ⟨i, n, [0, 0, 0, 0, 0, 0, 0, 0], false⟩) 25 (0, 0))) (hr : Rd W A zs) :
    ∃ W', (Builtin.copy_ #[36, 36] 3 #[.slice (some ⟨g, 2, none⟩) 8 8, .slice A zs.length c]).run Tryd.prog W = .ok (.int .i64 zs.length) W' ∧
      W'.heap[g]? = some (.cells (Fm.cells ⟨i, n, zs ++ List.replicate (8 - zs.length) 0, false⟩) 25 (0, 0)) ∧ (∀ k, k ≠ g → W'.heap[k]? = W.heap[k]?) ∧ Below g W W' := by
  rcases Nat.eq_zero_or_pos zs.length with hz | hz
  · obtain rfl := List.eq_nil_of_length_eq_zero hz
    have h := run_copy_none (P := Tryd.prog) W 36 36 3 5 (some ⟨g, 2, none⟩) A 8 8 0 c Tryd.underlying36 (by kernel_rfl) rfl
    exact ⟨W, h, h0, fun _ _ => rfl, Below.refl _ _⟩
  · obtain ⟨ad, rfl, hc⟩ := hr hz
    have h := run_copy_row (P := Tryd.prog) W 36 36 3 5 g 2 8 8 ad zs.length c _ 25 (zs.map (Value.int .u8)) Tryd.underlying36 (by kernel_rfl) h0
      (by rw [List.length_map]; exact (Nat.min_eq_left hl).symm)
      (by
        intro j v hj
        rw [List.getElem?_map] at hj
        have hjl : j < zs.length := by
          rcases Nat.lt_or_ge j zs.length with h | h
          · exact h
          · rw [List.getElem?_eq_none h] at hj; simp at hj
        rw [hc j hjl]
        rw [List.getElem?_eq_getElem hjl] at hj ⊢
        simpa using hj)
      (by rw [List.length_map]; simp [Fm.cells]; omega)
      (by intro v hv; obtain ⟨x, _, rfl⟩ := List.mem_map.1 hv; rfl)
    rw [mk_cells i n zs hl, List.length_map] at h
    exact ⟨_, h, setRow_heap W g _ _ _ _ h0, fun k hk => setRow_other W g k _ hk, below_setRow (Below.refl _ _) (Nat.le_refl _) _⟩
theorem fmake_res (tmps : Array Value) (w : World) (g : Nat) (cs : Array Value) (x : Value) (hp : tmps.getD 4 undef = .pointer (some ⟨g, 0, none⟩)) (ht : tmps.getD 5 undef = x) (hc : w.heap[g]? = some (.cells cs 25 (0, 0))) (hs : cs.size = 11) :
    (results Tryd.f14 tmps).run Tryd.prog w = .ok (.tuple #[.agg cs, x]) w := by
  have hi : (Tryd.prog.info? 25).map (·.size) = some 11 := by kernel_rfl
  rw [← ht]
  exact results_ct rfl tmps w g _ cs _ _ hp hc Tryd.underlying25 rfl (by rw [hi, hs])
set_option maxHeartbeats 2000000 in
set_option maxRecDepth 100000 in
theorem fmake_any (i : Int) (A : Option Addr) (c : Nat) (zs : List Int) (w : World) (hr : Rd w A zs) :
    Calls Tryd.prog 14 #[.int .u16 i, .slice A zs.length c] w fun e w' =>
      (mkOk i zs ∧ e = .returned (.tuple #[.agg (Fm.cells (mkF i zs)), .int .i64 0]) ∨ ¬ mkOk i zs ∧ e = .returned (.tuple #[.agg (Fm.cells fm0), .int .i64 2])) ∧ Below w.heap.size w w' := by
  have HR := Aside0.mk hr
  clear hr
  by_cases hh : i ≤ 2047 ∧ zs.length ≤ 8
  · obtain ⟨h1, h2⟩ := hh
    have hb0 := two_new1 w (.cells (Fm.cells fm0) 25) (.cells (Fm.cells ⟨i, zs.length, [0, 0, 0, 0, 0, 0, 0, 0], false⟩) 25) 0
    have hb1 := two_new2 w (.cells (Fm.cells fm0) 25) (.cells (Fm.cells ⟨i, zs.length, [0, 0, 0, 0, 0, 0, 0, 0], false⟩) 25) 0
    have hbw := two_below w (.cells (Fm.cells fm0) 25) (.cells (Fm.cells ⟨i, zs.length, [0, 0, 0, 0, 0, 0, 0, 0], false⟩) 25) 0
    obtain ⟨W3, hrun, hc1, hoth, hbl⟩ := copy_into _ (w.heap.size + 1) c i zs.length A zs h2 hb1 (HR.out.below hbw)
    have hc0 := (hoth w.heap.size (by omega)).trans hb0
    have hrun2 : (Builtin.copy_ #[36, 36] 3 #[.slice (some ⟨w.heap.size + 1, 2, none⟩) 8 8, .slice A zs.length c]).run Tryd.prog ((w.alloc (.cells #[.int .u16 0, .int .i64 0, .int .u8 0, .int .u8 0, .int .u8 0, .int .u8 0, .int .u8 0, .int .u8 0, .int .u8 0, .int .u8 0, .bool false] 25)).alloc (.cells #[.int .u16 i, .int .i64 zs.length, .int .u8 0, .int .u8 0, .int .u8 0, .int .u8 0, .int .u8 0, .int .u8 0, .int .u8 0, .int .u8 0, .bool false] 25)) = .ok (.int .i64 zs.length) W3 := hrun
    have HB := Aside0.mk (hbw.trans (hbl.mono (Nat.le_succ _)))
    have HB0 := Aside0.mk hc0
    obtain ⟨e0, e1, e2, e3, e4, e5, e6, e7, e8, e9, e10, e11⟩ := fm_at hc0
    obtain ⟨x0, x1, x2, x3, x4, x5, x6, x7, hx8⟩ := eight (d := zs ++ List.replicate (8 - zs.length) 0) (by simp; omega)
    rw [hx8] at hc1
    obtain ⟨f0, f1, f2, f3, f4, f5, f6, f7, f8, f9, f10, f11⟩ := fm_at hc1
    have HX := Aside0.mk hx8
    clear hb0 hb1 hbw hrun hc1 hoth hbl hc0 hx8
    go_enter Tryd.func14, Tryd.ntmps14
    go_wp2
    refine bodyPost_ret (fmake_res _ _ w.heap.size (Fm.cells ⟨i, zs.length, [x0, x1, x2, x3, x4, x5, x6, x7], false⟩) (.int .i64 0) rfl rfl ?_ rfl) rfl ?_
    · rw [cells11]
      exact row_fm HB0.out ..
    · rw [cells11]
      refine ⟨.inl ⟨⟨h1, h2⟩, ?_⟩, below_cells (Nat.le_refl _) _ _ HB.out⟩
      rw [mkF, HX.out]
  · have HH := Aside0.mk (show ¬ mkOk i zs from hh)
    go_enter Tryd.func14, Tryd.ntmps14
    go_wp2
    all_goals
      refine bodyPost_ret (fmake_res _ _ w.heap.size fm0.cells (.int .i64 2) rfl rfl ?_ rfl) rfl ?_
      · exact World.alloc_heap_new w _
      · exact ⟨.inr ⟨HH.out, rfl⟩, below_alloc (Below.refl _ _) _⟩
theorem rmake_res (tmps : Array Value) (w : World) (g : Nat) (cs : Array Value) (x : Value) (hp : tmps.getD 4 undef = .pointer (some ⟨g, 0, none⟩)) (ht : tmps.getD 5 undef = x) (hc : w.heap[g]? = some (.cells cs 25 (0, 0))) (hs : cs.size = 11) :
    (results Tryd.f15 tmps).run Tryd.prog w = .ok (.tuple #[.agg cs, x]) w := by
  have hi : (Tryd.prog.info? 25).map (·.size) = some 11 := by kernel_rfl
  rw [← ht]
  exact results_ct rfl tmps w g _ cs _ _ hp hc Tryd.underlying25 rfl (by rw [hi, hs])
theorem mkd_succ (zs : List Int) (k : Nat) (h : k < zs.length) (h8 : zs.length ≤ 8) : zs.take (k + 1) ++ List.replicate (8 - (k + 1)) 0 = (zs.take k ++ List.replicate (8 - k) 0).set k (zs[k]?.getD 0) := by
  have hl : (zs.take k).length = k := by simp; omega
  have ht : zs.take (k + 1) = zs.take k ++ [zs[k]?.getD 0] := by rw [List.take_add_one, List.getElem?_eq_getElem h]; rfl
  rw [List.set_append_right _ _ (by omega), hl, Nat.sub_self, show 8 - k = (8 - (k + 1)) + 1 by omega, List.replicate_succ, List.set_cons_zero, ht, List.append_assoc]
  rfl
set_option maxHeartbeats 2000000 in
set_option maxRecDepth 100000 in
theorem rmake_any (i : Int) (A : Option Addr) (c : Nat) (zs : List Int) (w : World) (hr : Rd w A zs) :
    Calls Tryd.prog 15 #[.int .u16 i, .slice A zs.length c] w fun e w' =>
      (mkOk i zs ∧ e = .returned (.tuple #[.agg (Fm.cells (mkF i zs)), .int .i64 0]) ∨ ¬ mkOk i zs ∧ e = .returned (.tuple #[.agg (Fm.cells fm0), .int .i64 2])) ∧ Below w.heap.size w w' := by
  have HR := Aside0.mk hr
  clear hr
  by_cases hh : i ≤ 2047 ∧ zs.length ≤ 8
  · obtain ⟨h1, h2⟩ := hh
    go_enter Tryd.func15, Tryd.ntmps15
    go_wp2
    go_loopw [7] (fun j wr => ∃ k : Nat, k ≤ zs.length ∧ j = .int .i64 k ∧ Aside0 (wr.heap[w.heap.size]? = some (.cells (Fm.cells fm0) 25 (0, 0))) ∧ Aside0 (wr.heap[w.heap.size + 1]? = some (.cells (Fm.cells ⟨i, zs.length, zs.take k ++ List.replicate (8 - k) 0, false⟩) 25 (0, 0))) ∧ Aside0 (Below w.heap.size w wr)) (fun j _ => zs.length - (intOf j).toNat)
    case atStart =>
      exact ⟨0, Nat.zero_le _, rfl, ⟨two_new1 w _ _ 0⟩, ⟨two_new2 w _ _ 0⟩, ⟨two_below w _ _ 0⟩⟩
    case round =>
      obtain ⟨k, hk, rfl, HB0, HB1, HB2⟩ := hrel
      have hkl : (zs.take k ++ List.replicate (8 - k) 0).length = 8 := by simp; omega
      by_cases hlt : k < zs.length
      · obtain ⟨ad, hA, hc⟩ := (HR.out.below HB2.out) (by omega)
        subst hA
        have hck := hc k hlt
        have hcl := blk_cell HB1.out (2 + k)
        rw [fm_len _ _ _ _ k (by omega)] at hcl
        have hfr := blk_frozen HB1.out (2 + k)
        have HST := Aside0.mk (mkd_succ zs k hlt h2)
        have HKL := Aside0.mk hkl
        clear hc hkl
        obtain ⟨x, hx⟩ : ∃ x, zs[k]?.getD 0 = x := ⟨_, rfl⟩
        rw [hx] at hck HST
        clear hx
        go_wp2
        refine ⟨⟨k + 1, by omega, by simp, ⟨blk_far HB0.out (by simp) _⟩, ⟨?_⟩, ⟨HB2.out.setCell (by simp) _⟩⟩, by simp [intOf]; omega⟩
        rw [HST.out]
        exact blk_put HB1.out (2 + k) _ (fm_set _ _ _ k _ _ (by have := HKL.out; omega))
      · have ek : k = zs.length := by omega
        have hc1 := HB1.out
        obtain ⟨x0, x1, x2, x3, x4, x5, x6, x7, hx8⟩ := eight hkl
        have HX := Aside0.mk (show zs ++ List.replicate (8 - zs.length) 0 = [x0, x1, x2, x3, x4, x5, x6, x7] by rw [← hx8, ek, List.take_length])
        rw [hx8] at hc1
        obtain ⟨f0, f1, f2, f3, f4, f5, f6, f7, f8, f9, f10, f11⟩ := fm_at hc1
        obtain ⟨e0, e1, e2, e3, e4, e5, e6, e7, e8, e9, e10, e11⟩ := fm_at HB0.out
        clear hx8 hc1 hkl ek
        go_wp2
        refine bodyPost_ret (rmake_res _ _ w.heap.size (Fm.cells ⟨i, zs.length, [x0, x1, x2, x3, x4, x5, x6, x7], false⟩) (.int .i64 0) rfl rfl ?_ rfl) rfl ?_
        · rw [cells11]
          exact row_fm HB0.out ..
        · rw [cells11]
          refine ⟨.inl ⟨⟨h1, h2⟩, ?_⟩, below_cells (Nat.le_refl _) _ _ HB2.out⟩
          rw [mkF, HX.out]
  · have HH := Aside0.mk (show ¬ mkOk i zs from hh)
    go_enter Tryd.func15, Tryd.ntmps15
    go_wp2
    all_goals
      refine bodyPost_ret (rmake_res _ _ w.heap.size fm0.cells (.int .i64 2) rfl rfl ?_ rfl) rfl ?_
      · exact World.alloc_heap_new w _
      · exact ⟨.inr ⟨HH.out, rfl⟩, below_alloc (Below.refl _ _) _⟩
def askOk (i n : Int) : Prop := i ≤ 2047 ∧ 0 ≤ n ∧ n ≤ 8
theorem fask_res (tmps : Array Value) (w : World) (g : Nat) (cs : Array Value) (x : Value) (hp : tmps.getD 4 undef = .pointer (some ⟨g, 0, none⟩)) (ht : tmps.getD 5 undef = x) (hc : w.heap[g]? = some (.cells cs 25 (0, 0))) (hs : cs.size = 11) :
    (results Tryd.f16 tmps).run Tryd.prog w = .ok (.tuple #[.agg cs, x]) w := by
  have hi : (Tryd.prog.info? 25).map (·.size) = some 11 := by kernel_rfl
  rw [← ht]
  exact results_ct rfl tmps w g _ cs _ _ hp hc Tryd.underlying25 rfl (by rw [hi, hs])
set_option maxHeartbeats 2000000 in
set_option maxRecDepth 100000 in
theorem fask_any (i n : Int) (w : World) :
    Calls Tryd.prog 16 #[.int .u16 i, .int .i64 n] w fun e w' =>
      (askOk i n ∧ e = .returned (.tuple #[.agg (Fm.cells ⟨i, n, [0, 0, 0, 0, 0, 0, 0, 0], true⟩), .int .i64 0]) ∨ ¬ askOk i n ∧ e = .returned (.tuple #[.agg (Fm.cells fm0), .int .i64 2])) ∧ Below w.heap.size w w' := by
  by_cases hh : i ≤ 2047 ∧ 0 ≤ n ∧ n ≤ 8
  · have HH := Aside0.mk (show askOk i n from hh)
    go_enter Tryd.func16, Tryd.ntmps16
    go_wp2
    refine bodyPost_ret (fask_res _ _ w.heap.size (Fm.cells ⟨i, n, [0, 0, 0, 0, 0, 0, 0, 0], true⟩) (.int .i64 0) rfl rfl ?_ rfl) rfl ?_
    · exact World.alloc_heap_new w _
    · exact ⟨.inl ⟨HH.out, rfl⟩, below_alloc (Below.refl _ _) _⟩
  · have HH := Aside0.mk (show ¬ askOk i n from hh)
    go_enter Tryd.func16, Tryd.ntmps16
    go_wp2
    all_goals
      refine bodyPost_ret (fask_res _ _ w.heap.size fm0.cells (.int .i64 2) rfl rfl ?_ rfl) rfl ?_
      · exact World.alloc_heap_new w _
      · exact ⟨.inr ⟨HH.out, rfl⟩, below_alloc (Below.refl _ _) _⟩
theorem rask_res (tmps : Array Value) (w : World) (g : Nat) (cs : Array Value) (x : Value) (hp : tmps.getD 4 undef = .pointer (some ⟨g, 0, none⟩)) (ht : tmps.getD 5 undef = x) (hc : w.heap[g]? = some (.cells cs 25 (0, 0))) (hs : cs.size = 11) :
    (results Tryd.f17 tmps).run Tryd.prog w = .ok (.tuple #[.agg cs, x]) w := by
  have hi : (Tryd.prog.info? 25).map (·.size) = some 11 := by kernel_rfl
  rw [← ht]
  exact results_ct rfl tmps w g _ cs _ _ hp hc Tryd.underlying25 rfl (by rw [hi, hs])
set_option maxHeartbeats 2000000 in
set_option maxRecDepth 100000 in
theorem rask_any (i n : Int) (w : World) :
    Calls Tryd.prog 17 #[.int .u16 i, .int .i64 n] w fun e w' =>
      (askOk i n ∧ e = .returned (.tuple #[.agg (Fm.cells ⟨i, n, [0, 0, 0, 0, 0, 0, 0, 0], true⟩), .int .i64 0]) ∨ ¬ askOk i n ∧ e = .returned (.tuple #[.agg (Fm.cells fm0), .int .i64 2])) ∧ Below w.heap.size w w' := by
  by_cases hh : i ≤ 2047 ∧ 0 ≤ n ∧ n ≤ 8
  · have HH := Aside0.mk (show askOk i n from hh)
    go_enter Tryd.func17, Tryd.ntmps17
    go_wp2
    refine bodyPost_ret (rask_res _ _ w.heap.size (Fm.cells ⟨i, n, [0, 0, 0, 0, 0, 0, 0, 0], true⟩) (.int .i64 0) rfl rfl ?_ rfl) rfl ?_
    · exact World.alloc_heap_new w _
    · exact ⟨.inl ⟨HH.out, rfl⟩, below_alloc (Below.refl _ _) _⟩
  · have HH := Aside0.mk (show ¬ askOk i n from hh)
    go_enter Tryd.func17, Tryd.ntmps17
    go_wp2
    all_goals
      refine bodyPost_ret (rask_res _ _ w.heap.size fm0.cells (.int .i64 2) rfl rfl ?_ rfl) rfl ?_
      · exact World.alloc_heap_new w _
      · exact ⟨.inr ⟨HH.out, rfl⟩, below_alloc (Below.refl _ _) _⟩
end Go.Proofs.YtmgabmcfgnlpfaaDoor.Frm
