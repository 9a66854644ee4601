/- frame.Read: the texts that are no frame by their head. -/
import Derived.Test.YtmgabmcfgnlpfaaDoorRow
import Derived.Test.YtmgabmcfgnlpfaaDoorPfx
namespace Go.Proofs.YtmgabmcfgnlpfaaDoor.Frm
open Go.RowKit Go.Proofs.YtmgabmcfgnlpfaaDoorW.PrintWords Go.Proofs.YtmgabmcfgnlpfaaDoorW.PrintMore Go.Proofs.YtmgabmcfgnlpfaaDoorW.PrintLast

theorem number_bad {s : ByteArray} {e : Ending} (hx : ∃ j, j < s.size ∧ ¬ isHex (s.data.toList[j]?.getD 0))
    (h : ((∃ j, j < s.size ∧ ¬ isHex (s.data.toList[j]?.getD 0)) ∧ e = .returned (.tuple #[.int .u64 0, .bool false])) ∨ ((∀ j, j < s.size → isHex (s.data.toList[j]?.getD 0)) ∧ e = .returned (.tuple #[.int .u64 (numU s.data.toList), .bool true]))) :
    e = .returned (.tuple #[.int .u64 0, .bool false]) := by
  obtain ⟨j, hj, hn⟩ := hx
  rcases h with ⟨_, h⟩ | ⟨h, _⟩
  · exact h
  · exact absurd (h j hj) hn
theorem number_good {s : ByteArray} {e : Ending} (hx : ∀ j, j < s.size → isHex (s.data.toList[j]?.getD 0))
    (h : ((∃ j, j < s.size ∧ ¬ isHex (s.data.toList[j]?.getD 0)) ∧ e = .returned (.tuple #[.int .u64 0, .bool false])) ∨ ((∀ j, j < s.size → isHex (s.data.toList[j]?.getD 0)) ∧ e = .returned (.tuple #[.int .u64 (numU s.data.toList), .bool true]))) :
    e = .returned (.tuple #[.int .u64 (numU s.data.toList), .bool true]) := by
  rcases h with ⟨⟨j, hj, hn⟩, _⟩ | ⟨_, h⟩
  · exact absurd (hx j hj) hn
  · exact h
/-- The head of a text is that of a frame: three digits, a mark, a number that may be. -/
def headOk (s : ByteArray) : Prop := hash s = 3 ∧ (∀ j, j < 3 → isHex ((s.extract 0 3).data.toList[j]?.getD 0)) ∧ numU (s.extract 0 3).data.toList ≤ 2047

theorem read_res (tmps : Array Value) (w : World) (g : Nat) (cs : Array Value) (x : Value) (hp : tmps.getD 2 undef = .pointer (some ⟨g, 0, none⟩)) (ht : tmps.getD 3 undef = x) (hc : w.heap[g]? = some (.cells cs 25 (0, 0))) (hs : cs.size = 11) :
    (results Tryd.f7 tmps).run Tryd.prog w = .ok (.tuple #[.agg cs, x]) w := by
  have hi : (Tryd.prog.info? 25).map (·.size) = some 11 := by kernel_rfl
  rw [← ht]
  exact results_ct rfl tmps w g _ cs _ _ hp hc Tryd.underlying25 rfl (by rw [hi, hs])
set_option maxHeartbeats 2000000 in
set_option maxRecDepth 100000 in
theorem read_head (s : ByteArray) (w : World) (h63 : s.size ≤ 9223372036854775807) (hno : ¬ headOk s) :
    Calls Tryd.prog 7 #[.string s] w fun e w' => e = .returned (.tuple #[.agg fm0.cells, .int .i64 30]) ∧ Below w.heap.size w w' := by
  have HNO := Aside0.mk hno
  clear hno
  by_cases hh : hash s < 0
  · go_enter Tryd.func7, Tryd.ntmps7
    go_wp2_with (first
      | (go_at_call 23; refine (cut_no s _ hh).mono ?_; rintro e w' ⟨rfl, rfl⟩)
      | (go_at_call 24; refine (number_any s _ h63).mono ?_; rintro e w' ⟨rfl, (⟨hx, rfl⟩ | ⟨hx, rfl⟩)⟩))
    all_goals
      refine bodyPost_ret (read_res _ _ _ _ _ rfl rfl (World.alloc_heap_new w _) rfl) rfl ?_
      exact ⟨rfl, below_alloc (Below.refl _ _) _⟩
  · obtain ⟨i, hi⟩ : ∃ i : Nat, hash s = i := ⟨(hash s).toNat, by omega⟩
    have hb := hash_bound s
    have hsz : (s.extract 0 i).size = i := by simp; omega
    have hi63 : i ≤ 9223372036854775807 := by omega
    have HH := Aside0.mk hi
    have HSZ := Aside0.mk hsz
    obtain ⟨hd, hhd⟩ : ∃ hd, s.extract 0 i = hd := ⟨_, rfl⟩
    rw [hhd] at HSZ
    have HHD := Aside0.mk hhd
    clear hi hb hsz hhd hh
    by_cases h3 : i = 3
    · have hsz := HSZ.out
      have H3 := Aside0.mk h3
      by_cases hx : ∃ j, j < hd.size ∧ ¬ isHex (hd.data.toList[j]?.getD 0)
      · have HX := Aside0.mk hx
        clear hx
        go_enter Tryd.func7, Tryd.ntmps7
        go_wp2_with (first
          | (go_at_call 23; refine (cut_yes s _ i HH.out h63).mono ?_; rintro e w1 ⟨rfl, ⟨m1, rfl⟩⟩; rw [HHD.out])
          | (go_at_call 24; refine (number_any hd _ (by rw [HSZ.out]; exact hi63)).mono ?_; rintro e w' ⟨rfl, hor⟩; obtain rfl := number_bad HX.out hor; clear hor))
        all_goals
          refine bodyPost_ret (read_res _ _ w.heap.size fm0.cells (.int .i64 30) rfl rfl ?_ rfl) rfl ?_
          · rw [cells11]
            exact new_row w ..
          · rw [cells11]
            exact ⟨rfl, new_below w _ _ _⟩
      · have hx2 : ∀ j, j < hd.size → isHex (hd.data.toList[j]?.getD 0) := fun j hj => by
          by_cases hh : isHex (hd.data.toList[j]?.getD 0)
          · exact hh
          · exact absurd ⟨j, hj, hh⟩ hx
        have htop : 2047 < numU hd.data.toList := by
          rcases (by omega : 2047 < numU hd.data.toList ∨ numU hd.data.toList ≤ 2047) with h | h
          · exact h
          · refine absurd ⟨by rw [HH.out, H3.out]; rfl, ?_, ?_⟩ HNO.out
            · rw [← H3.out, HHD.out]
              exact fun j hj => hx2 j (by rw [HSZ.out]; exact hj)
            · rw [← H3.out, HHD.out]
              exact h
        have HX := Aside0.mk hx2
        obtain ⟨num, hnum⟩ : ∃ num, numU hd.data.toList = num := ⟨_, rfl⟩
        rw [hnum] at htop
        have HNUM := Aside0.mk hnum
        clear hx hx2 hnum
        go_enter Tryd.func7, Tryd.ntmps7
        go_wp2_with (first
          | (go_at_call 23; refine (cut_yes s _ i HH.out h63).mono ?_; rintro e w1 ⟨rfl, ⟨m1, rfl⟩⟩; rw [HHD.out])
          | (go_at_call 24; refine (number_any hd _ (by rw [HSZ.out]; exact hi63)).mono ?_; rintro e w' ⟨rfl, hor⟩; obtain rfl := number_good HX.out hor; rw [HNUM.out]; clear hor))
        all_goals
          refine bodyPost_ret (read_res _ _ w.heap.size fm0.cells (.int .i64 30) rfl rfl ?_ rfl) rfl ?_
          · rw [cells11]
            exact new_row w ..
          · rw [cells11]
            exact ⟨rfl, new_below w _ _ _⟩
    · have hsz := HSZ.out
      obtain ⟨num, hnum⟩ : ∃ num, numU hd.data.toList = num := ⟨_, rfl⟩
      have HNUM := Aside0.mk hnum
      clear hnum
      go_enter Tryd.func7, Tryd.ntmps7
      go_wp2_with (first
        | (go_at_call 23; refine (cut_yes s _ i HH.out h63).mono ?_; rintro e w1 ⟨rfl, ⟨m1, rfl⟩⟩; rw [HHD.out])
        | (go_at_call 24; refine (number_any hd _ (by rw [HSZ.out]; exact hi63)).mono ?_; rintro e w' ⟨rfl, (⟨hx, rfl⟩ | ⟨hx, rfl⟩)⟩ <;> clear hx <;> (try rw [HNUM.out])))
      all_goals
        refine bodyPost_ret (read_res _ _ w.heap.size fm0.cells (.int .i64 30) rfl rfl ?_ rfl) rfl ?_
        · rw [cells11]
          exact new_row w ..
        · rw [cells11]
          exact ⟨rfl, new_below w _ _ _⟩
end Go.Proofs.YtmgabmcfgnlpfaaDoor.Frm
