/- Producers that are not there; producers that stand; Want, Stop, Comm. Producers: Set where it is refused, or where the object is off; Comm of no object. ProduceKnown, plainly: the producer's objects from call to call. A producer and its dictionary in one word; the calls in its terms. -/
import Derived.Test.YtokebpeplopjhaaDoorY13
namespace Go.Proofs.YtokebpeplopjhaaDoor.Mp
open Go.RowKit Go.Shelf Go.Proofs.YtokebpeplopjhaaDoor.Rng Go.Proofs.YtokebpeplopjhaaDoorW.PrintWords Go.Proofs.YtokebpeplopjhaaDoorW.PrintMore Go.Proofs.YtokebpeplopjhaaDoorW.PrintLast

set_option maxRecDepth 100000 in
set_option maxHeartbeats 1000000 in
theorem pstart_nil (n : Int) (w : World) : Calls Tryd.prog 43 #[.pointer none, .int .i64 n] w fun e w' => e = .returned (.tuple #[]) ∧ w = w' := by
  go_enter Tryd.func43, Tryd.ntmps43
  go_wp2
  refine bodyPost_ret (results_none rfl _ _ _) rfl ?_
  exact ⟨rfl, rfl⟩
set_option maxRecDepth 100000 in
set_option maxHeartbeats 1000000 in
theorem pstop_nil (w : World) : Calls Tryd.prog 61 #[.pointer none] w fun e w' => e = .returned (.tuple #[]) ∧ w = w' := by
  go_enter Tryd.func61, Tryd.ntmps61
  go_wp2
  go_end0
  exact ⟨rfl, rfl⟩
set_option maxRecDepth 100000 in
set_option maxHeartbeats 1000000 in
theorem pstop_any (g : Nat) (vd : Value) (os : Nat → Ob) (vm vb : Nat → Value) (goes : Bool) (n0 : Int) (w : World) (h : PrAt w g vd os vm vb goes n0) : Calls Tryd.prog 61 #[.pointer (some ⟨g, 0, none⟩)] w fun e w' => e = .returned (.tuple #[]) ∧ PrAt w' g vd os vm vb false n0 ∧ Fr (fun k => k = g) w w' ∧ Keep8 w w' := by
  have HP := Aside0.mk h
  have c5 := h.gs
  have f5 := h.fz 105
  clear h
  go_enter Tryd.func61, Tryd.ntmps61
  go_wp2
  go_end0
  exact ⟨rfl, HP.out.setGoes false, Fr.setCell (M := fun k => k = g) _ _ _ (.inl rfl), keep_set HP.out.gs (fun y => by simp)⟩
set_option maxRecDepth 100000 in
set_option maxHeartbeats 1000000 in
theorem pdue_nil (w : World) : Calls Tryd.prog 59 #[.pointer none] w fun e w' => e = .returned (.tuple #[.int .i64 0, .bool false]) ∧ w = w' := by
  go_enter Tryd.func59, Tryd.ntmps59
  go_wp2
  go_ret2
  exact ⟨rfl, rfl⟩
set_option maxRecDepth 100000 in
set_option maxHeartbeats 1000000 in
theorem pwant_nil (i : Int) (w : World) : Calls Tryd.prog 60 #[.pointer none, .int .i64 i] w fun e w' => e = .returned (.bool false) ∧ w = w' := by
  go_enter Tryd.func60, Tryd.ntmps60
  go_wp2
  go_ret
  exact ⟨rfl, rfl⟩
set_option maxRecDepth 100000 in
set_option maxHeartbeats 1000000 in
theorem pset_nil (i : Int) (c : Cm) (v : Value) (w : World) : Calls Tryd.prog 40 #[.pointer none, .int .i64 i, c.v, v] w fun e w' => e = .returned (.int .u32 134217728) ∧ Below w.heap.size w w' := by
  obtain ⟨on, id, kind, inh, ev, st⟩ := c
  go_enter Tryd.func40, Tryd.ntmps40
  go_wp2
  go_ret
  exact ⟨rfl, below_alloc (Below.refl _ _) _⟩
set_option maxRecDepth 100000 in
set_option maxHeartbeats 1000000 in
theorem peach_nil (now : Int) (v : Value) (w : World) : Calls Tryd.prog 93 #[.pointer none, .int .i64 now, v] w fun e w' => e = .returned (.slice none 0 0) ∧ w = w' := by
  go_enter Tryd.func93, Tryd.ntmps93
  go_wp2
  go_ret
  exact ⟨rfl, rfl⟩
set_option maxRecDepth 100000 in
set_option maxHeartbeats 1000000 in
theorem peach_stands (g : Nat) (vd : Value) (os : Nat → Ob) (vm vb : Nat → Value) (n0 now : Int) (v : Value) (w : World) (h : PrAt w g vd os vm vb false n0) : Calls Tryd.prog 93 #[.pointer (some ⟨g, 0, none⟩), .int .i64 now, v] w fun e w' => e = .returned (.slice none 0 0) ∧ w = w' := by
  have c5 := h.gs
  clear h
  go_enter Tryd.func93, Tryd.ntmps93
  go_wp2
  go_ret
  exact ⟨rfl, rfl⟩
set_option maxRecDepth 100000 in
set_option maxHeartbeats 1000000 in
theorem ptick_nil (now : Int) (w : World) : Calls Tryd.prog 45 #[.pointer none, .int .i64 now] w fun e w' => e = .returned (.slice none 0 0) ∧ Below w.heap.size w w' := by
  go_enter Tryd.func45, Tryd.ntmps45
  go_wp2_with (go_at_call 93; go_loud (refine (peach_nil _ _ _).mono ?_; rintro e w3 ⟨rfl, hw⟩; subst hw))
  go_ret
  exact ⟨rfl, (below_alloc (Below.refl _ _) _).alloc (by simp) _⟩
set_option maxRecDepth 100000 in
set_option maxHeartbeats 1000000 in
theorem ptick_stands (g : Nat) (vd : Value) (os : Nat → Ob) (vm vb : Nat → Value) (n0 now : Int) (w : World) (h : PrAt w g vd os vm vb false n0) : Calls Tryd.prog 45 #[.pointer (some ⟨g, 0, none⟩), .int .i64 now] w fun e w' => e = .returned (.slice none 0 0) ∧ Below w.heap.size w w' := by
  have hb2 : Below w.heap.size w ((w.alloc (.cells #[.pointer (some ⟨g, 0, none⟩)] 78)).alloc (.cells #[.int .i64 now] 2)) := (below_alloc (Below.refl _ _) _).alloc (by simp) _
  have HP := Aside0.mk (h.below hb2)
  have HB := Aside0.mk hb2
  clear h hb2
  go_enter Tryd.func45, Tryd.ntmps45
  go_wp2_with (go_at_call 93; go_loud (refine (peach_stands _ _ _ _ _ _ _ _ _ HP.out).mono ?_; rintro e w3 ⟨rfl, hw⟩; subst hw))
  go_ret
  exact ⟨rfl, HB.out⟩
set_option maxRecDepth 100000 in
set_option maxHeartbeats 1000000 in
theorem psync_nil (now count : Int) (w : World) : Calls Tryd.prog 47 #[.pointer none, .int .u8 count, .int .i64 now] w fun e w' => e = .returned (.slice none 0 0) ∧ Below w.heap.size w w' := by
  go_enter Tryd.func47, Tryd.ntmps47
  go_wp2_with (go_at_call 93; go_loud (refine (peach_nil _ _ _).mono ?_; rintro e w3 ⟨rfl, hw⟩; subst hw))
  go_ret
  exact ⟨rfl, (below_alloc (Below.refl _ _) _).alloc (by simp) _⟩
set_option maxRecDepth 100000 in
set_option maxHeartbeats 1000000 in
theorem psync_stands (g : Nat) (vd : Value) (os : Nat → Ob) (vm vb : Nat → Value) (n0 now count : Int) (w : World) (h : PrAt w g vd os vm vb false n0) : Calls Tryd.prog 47 #[.pointer (some ⟨g, 0, none⟩), .int .u8 count, .int .i64 now] w fun e w' => e = .returned (.slice none 0 0) ∧ Below w.heap.size w w' := by
  have hb2 : Below w.heap.size w ((w.alloc (.cells #[.pointer (some ⟨g, 0, none⟩)] 78)).alloc (.cells #[.int .u8 count] 5)) := (below_alloc (Below.refl _ _) _).alloc (by simp) _
  have HP := Aside0.mk (h.below hb2)
  have HB := Aside0.mk hb2
  clear h hb2
  go_enter Tryd.func47, Tryd.ntmps47
  go_wp2_with (go_at_call 93; go_loud (refine (peach_stands _ _ _ _ _ _ _ _ _ HP.out).mono ?_; rintro e w3 ⟨rfl, hw⟩; subst hw))
  go_ret
  exact ⟨rfl, HB.out⟩
set_option maxRecDepth 100000 in
set_option maxHeartbeats 1000000 in
theorem pnew_nil (w : World) : Calls Tryd.prog 63 #[.pointer none] w fun e w' => e = .returned (.pointer none) ∧ w = w' := by
  go_enter Tryd.func63, Tryd.ntmps63
  go_wp2
  go_ret
  exact ⟨rfl, rfl⟩
set_option maxRecDepth 100000 in
set_option maxHeartbeats 1000000 in
theorem pwant_out (g : Nat) (vd : Value) (os : Nat → Ob) (vm vb : Nat → Value) (goes : Bool) (n0 : Int) (i : Int) (w : World) (h : PrAt w g vd os vm vb goes n0) (hi : i < 0 ∨ 8 ≤ i) : Calls Tryd.prog 60 #[.pointer (some ⟨g, 0, none⟩), .int .i64 i] w fun e w' => e = .returned (.bool false) ∧ w = w' := by
  have c5 := h.gs
  clear h
  cases goes with
  | false =>
    clear hi
    go_enter Tryd.func60, Tryd.ntmps60
    go_wp2
    go_ret
    exact ⟨rfl, rfl⟩
  | true =>
    by_cases h0 : i < 0
    · have d0 := decide_eq_true h0
      clear hi
      go_enter Tryd.func60, Tryd.ntmps60
      go_wp2
      go_ret
      exact ⟨rfl, rfl⟩
    · have d0 := decide_eq_false h0
      have h8 : 8 ≤ i := by omega
      have d8 := decide_eq_true h8
      clear hi
      go_enter Tryd.func60, Tryd.ntmps60
      go_wp2
      go_ret
      exact ⟨rfl, rfl⟩
set_option maxRecDepth 100000 in
set_option maxHeartbeats 1000000 in
theorem pwant_off (g : Nat) (vd : Value) (os : Nat → Ob) (vm vb : Nat → Value) (goes : Bool) (n0 : Int) (i : Nat) (hi : i < 8) (w : World) (h : PrAt w g vd os vm vb goes n0) (ho : goes = false ∨ (os i).cm.on = false) : Calls Tryd.prog 60 #[.pointer (some ⟨g, 0, none⟩), .int .i64 i] w fun e w' => e = .returned (.bool false) ∧ w = w' := by
  have c5 := h.gs
  have y0 := h.ob i hi 0 _ rfl
  rw [Nat.add_zero] at y0
  have hi1 : (i : Int) < 8 := by omega
  clear h
  cases goes with
  | false =>
    go_enter Tryd.func60, Tryd.ntmps60
    go_wp2
    go_ret
    exact ⟨rfl, rfl⟩
  | true =>
    rw [ho.resolve_left (by simp)] at y0
    clear ho
    go_enter Tryd.func60, Tryd.ntmps60
    go_wp2
    go_ret
    exact ⟨rfl, rfl⟩
theorem PrAt.want {w : World} {g : Nat} {vd : Value} {os : Nat → Ob} {vm vb : Nat → Value} {goes : Bool} {n0 : Int} (h : PrAt w g vd os vm vb goes n0) {i : Nat} (hi : i < 8) : PrAt (w.setCell ⟨g, 1 + i * 13 + 10, none⟩ (.bool true)) g vd (upd os i { os i with wanted := true }) vm vb goes n0 := by
  have h1 := h.store hi (t := 10) [.bool true] (by simp) { os i with wanted := true } (vm i) (vb i) (fun j u hu => ?_) (h.ms i hi) (h.bs i hi)
  · rw [upd_id, upd_id] at h1
    exact h1
  · have hj : j < 13 := (List.getElem?_eq_some_iff.1 hu).1
    match j, hj, hu with
    | 0, _, hu => exact .inr ⟨.inl (by omega), hu⟩
    | 1, _, hu => exact .inr ⟨.inl (by omega), hu⟩
    | 2, _, hu => exact .inr ⟨.inl (by omega), hu⟩
    | 3, _, hu => exact .inr ⟨.inl (by omega), hu⟩
    | 4, _, hu => exact .inr ⟨.inl (by omega), hu⟩
    | 5, _, hu => exact .inr ⟨.inl (by omega), hu⟩
    | 6, _, hu => exact .inr ⟨.inl (by omega), hu⟩
    | 7, _, hu => exact .inr ⟨.inl (by omega), hu⟩
    | 8, _, hu => exact .inr ⟨.inl (by omega), hu⟩
    | 9, _, hu => exact .inr ⟨.inl (by omega), hu⟩
    | 10, _, hu => exact .inl ⟨by omega, by simp, hu⟩
    | 11, _, hu => exact .inr ⟨.inr (by simp), hu⟩
    | 12, _, hu => exact .inr ⟨.inr (by simp), hu⟩
set_option maxRecDepth 100000 in
set_option maxHeartbeats 1000000 in
theorem pwant_on (g : Nat) (vd : Value) (os : Nat → Ob) (vm vb : Nat → Value) (n0 : Int) (i : Nat) (hi : i < 8) (w : World) (h : PrAt w g vd os vm vb true n0) (ho : (os i).cm.on = true) : Calls Tryd.prog 60 #[.pointer (some ⟨g, 0, none⟩), .int .i64 i] w fun e w' => e = .returned (.bool true) ∧ PrAt w' g vd (upd os i { os i with wanted := true }) vm vb true n0 ∧ Fr (fun k => k = g) w w' ∧ Keep8 w w' := by
  have HP := Aside0.mk h
  have c5 := h.gs
  have y0 := h.ob i hi 0 _ rfl
  rw [Nat.add_zero, ho] at y0
  have y10 := h.ob i hi 10 _ rfl
  have f10 := h.fz (1 + i * 13 + 10)
  have hi1 : (i : Int) < 8 := by omega
  have hi0 : (0 : Int) ≤ (i : Int) := by omega
  clear h ho
  go_enter Tryd.func60, Tryd.ntmps60
  go_wp2
  go_ret
  exact ⟨rfl, HP.out.want hi, Fr.setCell (M := fun k => k = g) _ _ _ (.inl rfl), keep_set y10 (fun y => by simp)⟩
end Go.Proofs.YtokebpeplopjhaaDoor.Mp
set_option linter.unusedSimpArgs false
set_option linter.unusedVariables false
namespace Go.Proofs.YtokebpeplopjhaaDoor.Mp
open Go.RowKit Go.Shelf Go.Proofs.YtokebpeplopjhaaDoor.Rng Go.Proofs.YtokebpeplopjhaaDoorW.PrintWords Go.Proofs.YtokebpeplopjhaaDoorW.PrintMore Go.Proofs.YtokebpeplopjhaaDoorW.PrintLast

theorem info_cm : (Tryd.prog.info? 82).map (·.size) = some 6 := by kernel_rfl
theorem pcomm_res (tmps : Array Value) (w : World) (g : Nat) (cs : Array Value) (x : Value) (hp : tmps.getD 4 undef = .pointer (some ⟨g, 0, none⟩)) (ht : tmps.getD 5 undef = x) (hc : w.heap[g]? = some (.cells cs 82 (0, 0))) (hs : cs.size = 6) :
    (results Tryd.f62 tmps).run Tryd.prog w = .ok (.tuple #[.agg cs, x]) w := by
  rw [← ht]
  exact results_ct rfl tmps w g _ cs _ _ hp hc Tryd.underlying82 rfl (by rw [info_cm, hs])
def CommNone (w : World) (e : Ending) (w' : World) : Prop := e = .returned (.tuple #[.agg #[.bool false, .int .u16 0, .int .u8 0, .int .i64 0, .int .i64 0, .int .u8 0], .slice none 0 0]) ∧ Below w.heap.size w w'
set_option maxRecDepth 100000 in
set_option maxHeartbeats 1000000 in
theorem pcomm_nil (i : Int) (w : World) : Calls Tryd.prog 62 #[.pointer none, .int .i64 i] w (CommNone w) := by
  have hb := blk_new w (.cells #[.bool false, .int .u16 0, .int .u8 0, .int .i64 0, .int .i64 0, .int .u8 0] 82)
  go_enter Tryd.func62, Tryd.ntmps62
  go_wp2
  exact bodyPost_ret (pcomm_res _ _ w.heap.size #[.bool false, .int .u16 0, .int .u8 0, .int .i64 0, .int .i64 0, .int .u8 0] (.slice none 0 0) rfl rfl hb rfl) rfl ⟨rfl, below_alloc (Below.refl _ _) _⟩
set_option maxRecDepth 100000 in
set_option maxHeartbeats 1000000 in
theorem pcomm_out (a : Addr) (i : Int) (hi : 8 ≤ i) (w : World) : Calls Tryd.prog 62 #[.pointer (some a), .int .i64 i] w (CommNone w) := by
  have hb := blk_new w (.cells #[.bool false, .int .u16 0, .int .u8 0, .int .i64 0, .int .i64 0, .int .u8 0] 82)
  have d0 : decide (i < 0) = false := decide_eq_false (by omega)
  have d8 := decide_eq_true hi
  go_enter Tryd.func62, Tryd.ntmps62
  go_wp2
  exact bodyPost_ret (pcomm_res _ _ w.heap.size #[.bool false, .int .u16 0, .int .u8 0, .int .i64 0, .int .i64 0, .int .u8 0] (.slice none 0 0) rfl rfl hb rfl) rfl ⟨rfl, below_alloc (Below.refl _ _) _⟩
set_option maxRecDepth 100000 in
set_option maxHeartbeats 1000000 in
theorem pset_out (a : Addr) (i : Int) (hi : i < 0 ∨ 8 ≤ i) (c : Cm) (v : Value) (w : World) : Calls Tryd.prog 40 #[.pointer (some a), .int .i64 i, c.v, v] w fun e w' => e = .returned (.int .u32 134217728) ∧ Below w.heap.size w w' := by
  obtain ⟨on, id, kind, inh, ev, st⟩ := c
  by_cases h0 : i < 0
  · have d0 := decide_eq_true h0
    clear hi
    go_enter Tryd.func40, Tryd.ntmps40
    go_wp2
    go_ret
    exact ⟨rfl, below_alloc (Below.refl _ _) _⟩
  · have d0 := decide_eq_false h0
    have h8 : 8 ≤ i := by omega
    have d8 := decide_eq_true h8
    clear hi
    go_enter Tryd.func40, Tryd.ntmps40
    go_wp2
    go_ret
    exact ⟨rfl, below_alloc (Below.refl _ _) _⟩
set_option maxRecDepth 100000 in
set_option maxHeartbeats 1000000 in
theorem pset_bad (a : Addr) (i : Nat) (hi : i < 8) (c : Cm) (hc : ¬ cmOk c) (v : Value) (w : World) : Calls Tryd.prog 40 #[.pointer (some a), .int .i64 i, c.v, v] w fun e w' => e = .returned (.int .u32 101253168) ∧ Below w.heap.size w w' := by
  have hmay := fun X => pmay_any c X
  rw [decide_eq_false hc] at hmay
  have HMY := Aside0.mk hmay
  obtain ⟨on, id, kind, inh, ev, st⟩ := c
  have hi0 : (0 : Int) ≤ (i : Int) := by omega
  have hi8 : (i : Int) < 8 := by omega
  have HB0 := Aside0.mk (show Below w.heap.size w (w.alloc (.cells #[.bool on, .int .u16 id, .int .u8 kind, .int .i64 inh, .int .i64 ev, .int .u8 st] 82)) from below_alloc (Below.refl _ _) _)
  clear hmay hc
  go_enter Tryd.func40, Tryd.ntmps40
  go_wp2_with (go_at_call 89; refine (HMY.out _).mono ?_; rintro e w1 ⟨rfl, hb1⟩; have HB1 := Aside0.mk (HB0.out.trans (hb1.mono HB0.out.size)); clear hb1)
  go_ret
  exact ⟨rfl, HB1.out⟩
set_option maxRecDepth 100000 in
set_option maxHeartbeats 1000000 in
theorem pset_long (a : Addr) (i : Nat) (hi : i < 8) (c : Cm) (hc : cmOk c) (A : Option Addr) (n cc : Nat) (hn : 64 < n) (w : World) : Calls Tryd.prog 40 #[.pointer (some a), .int .i64 i, c.v, .slice A n cc] w fun e w' => e = .returned (.int .u32 100925506) ∧ Below w.heap.size w w' := by
  have hmay := fun X => pmay_any c X
  rw [decide_eq_true hc] at hmay
  have HMY := Aside0.mk hmay
  obtain ⟨on, id, kind, inh, ev, st⟩ := c
  have hi0 : (0 : Int) ≤ (i : Int) := by omega
  have hi8 : (i : Int) < 8 := by omega
  have d64 : decide ((64 : Int) < (n : Int)) = true := decide_eq_true (by omega)
  have HB0 := Aside0.mk (show Below w.heap.size w (w.alloc (.cells #[.bool on, .int .u16 id, .int .u8 kind, .int .i64 inh, .int .i64 ev, .int .u8 st] 82)) from below_alloc (Below.refl _ _) _)
  clear hmay hc
  go_enter Tryd.func40, Tryd.ntmps40
  go_wp2_with (go_at_call 89; refine (HMY.out _).mono ?_; rintro e w1 ⟨rfl, hb1⟩; have HB1 := Aside0.mk (HB0.out.trans (hb1.mono HB0.out.size)); clear hb1)
  go_ret
  exact ⟨rfl, HB1.out⟩
set_option maxRecDepth 100000 in
set_option maxHeartbeats 2000000 in
theorem pset_check (B g gd bi bs : Nat) (d : DD) (os : Nat → Ob) (vm vb : Nat → Value) (goes : Bool) (n0 : Int) (i : Nat) (hi : i < 8) (c : Cm) (l : List Mp) (A : Option Addr) (cc : Nat) (w : World) (h : PrAt w g (.pointer (some ⟨gd, 0, none⟩)) os vm vb goes n0) (hD : DictB B w gd bi bs d) (hG : Good d) (ht : Tbl w) (hm : MsAt w A l) (hl : l.length ≤ 64) (hmw : ∀ m ∈ l, m.Wf) (hc : cmOk c) (hon : c.on = true) (r : Int) (hck : checkC (some d) l true = r) (hr : r ≠ 0) :
    Calls Tryd.prog 40 #[.pointer (some ⟨g, 0, none⟩), .int .i64 i, c.v, .slice A l.length cc] w fun e w' => e = .returned (.int .u32 r) ∧ Below w.heap.size w w' := by
  have HP := Aside0.mk h
  have HD := Aside0.mk hD
  have HT := Aside0.mk ht
  have HG := Aside0.mk hG
  have HM := Aside0.mk hm
  have HMW := Aside0.mk hmw
  have HCK := Aside0.mk hck
  have hmay := fun X => pmay_any c X
  rw [decide_eq_true hc] at hmay
  have HMY := Aside0.mk hmay
  have hi0 : (0 : Int) ≤ (i : Int) := by omega
  have hi8 : (i : Int) < 8 := by omega
  obtain ⟨n, hn⟩ : ∃ n, l.length = n := ⟨_, rfl⟩
  have HN := Aside0.mk hn
  have hnl : ¬ (64 : Int) < (n : Int) := by omega
  rw [hn] at hl ⊢
  obtain ⟨on, id, kind, inh, ev, st⟩ := c
  simp only at hon
  subst hon
  have q1 : (r == 0) = false := by simpa using hr
  have q2 : (r != 0) = true := by simpa using hr
  have hbox := blk_new w (.cells #[.bool true, .int .u16 id, .int .u8 kind, .int .i64 inh, .int .i64 ev, .int .u8 st] 82)
  have HBOX := Aside0.mk hbox
  have HB0 := Aside0.mk (show Below w.heap.size w (w.alloc (.cells #[.bool true, .int .u16 id, .int .u8 kind, .int .i64 inh, .int .i64 ev, .int .u8 st] 82)) from below_alloc (Below.refl _ _) _)
  clear h hD ht hG hm hmw hck hmay hc hn hbox hr
  go_enter Tryd.func40, Tryd.ntmps40
  go_wp2_with (first
    | (go_at_call 89; refine (HMY.out _).mono ?_; rintro e w1 ⟨rfl, hb1⟩; have HB1 := Aside0.mk (HB0.out.trans (hb1.mono HB0.out.size)); have hb0 := Go.Proofs.YtokebpeplopjhaaDoorW.PrintWords.blk_cell (blk_below HBOX.out hb1) 0; have d0 := pw_cell_below HB1.out HP.out.d0; clear hb1)
    | (go_at_call 21; rw [← HN.out]; refine (mcheck_any B (.pointer (some ⟨gd, 0, none⟩)) (some d) l A cc true w1 ⟨gd, rfl, (HD.out.below HB1.out).dict⟩ (HT.out.below HB1.out) (HM.out.below HB1.out) (by have := HN.out; omega) HMW.out HG.out.find).mono ?_; rw [HCK.out]; rintro e w2 ⟨rfl, hb2⟩; rw [HN.out]; have HB2 := Aside0.mk (HB1.out.trans (hb2.mono HB1.out.size)); clear hb2 hb0 d0))
  go_ret
  exact ⟨rfl, HB2.out⟩
end Go.Proofs.YtokebpeplopjhaaDoor.Mp
namespace Go.Proofs.YtokebpeplopjhaaDoor.Mp
open Go.RowKit Go.Proofs.YtokebpeplopjhaaDoor.Num

/-- Three objects; the others are off. -/
def K3 (a b c z : Ob) : Nat → Ob := fun i => if i = 0 then a else if i = 1 then b else if i = 2 then c else z
def oZ (n : Int) : Ob := ⟨zCm, [], false, [], n, false, 0, true⟩
def cA : Cm := ⟨true, 385, 255, 10, 50, 0⟩
def cB1 : Cm := ⟨true, 641, 3, 0, 0, 0⟩
def cC : Cm := ⟨true, 897, 2, 0, 0, 4⟩
def d7 : DD := wrtC d1 24576 1 [7]
theorem oneD_7 : OneD d7 7 := oneD_d1.write (by decide)
def os1 : Nat → Ob := K3 (obI cA false [] 0 0 true) (oZ 0) (oZ 0) (oZ 0)
def os2 : Nat → Ob := K3 (obI cA true [0] 0 0 true) (oZ 0) (oZ 0) (oZ 0)
def os3 : Nat → Ob := K3 (obI cA true [7] 10 0 true) (oZ 0) (oZ 0) (oZ 0)
def os4 : Nat → Ob := K3 (obI cA true [7] 10 0 true) (obI cB1 false [] 10 0 true) (oZ 0) (oZ 0)
def os5 : Nat → Ob := K3 (obI cA true [7] 10 0 true) (obI cB1 false [] 10 1 true) (oZ 0) (oZ 0)
def os6 : Nat → Ob := K3 (obI cA true [7] 10 0 true) (obI cB1 false [] 10 2 true) (oZ 0) (oZ 0)
def os7 : Nat → Ob := K3 (obI cA true [7] 10 0 true) (obI cB1 true [7] 1 0 true) (oZ 0) (oZ 0)
def os8 : Nat → Ob := K3 (obI cA true [7] 10 0 true) (oZ 1) (oZ 0) (oZ 0)
def os9 : Nat → Ob := K3 (obI cA true [7] 10 0 true) (oZ 1) (obI cC false [] 1 0 false) (oZ 0)
def osB : Nat → Ob := K3 (obI cA true [7] 10 0 true) (oZ 1) (obI cC true [7] 3 0 true) (oZ 0)
def osC : Nat → Ob := K3 (obI cA true [7] 10 0 true) (oZ 1) (obI cC true [7] 3 1 true) (oZ 0)
def osD : Nat → Ob := K3 (obI cA true [7] 10 0 true) (oZ 1) (obI cC true [7] 5 0 true) (oZ 0)
def osE : Nat → Ob := K3 { obI cA true [7] 10 0 true with wanted := true } (oZ 1) (obI cC true [7] 5 0 true) (oZ 0)
def osF : Nat → Ob := K3 (obI cA true [7] 20 0 true) (oZ 1) (obI cC true [7] 5 0 true) (oZ 0)
def osG : Nat → Ob := K3 (obI cA true [7] 70 0 true) (oZ 1) (obI cC true [7] 5 0 true) (oZ 0)
theorem k2_o : ∀ i, i < 8 → (eachO (fun x => tickC (some d1) x 0) (some d1) 0 os1 8) i = os2 i
  | 0, _ => by kernel_rfl
  | 1, _ => by kernel_rfl
  | 2, _ => by kernel_rfl
  | 3, _ => by kernel_rfl
  | 4, _ => by kernel_rfl
  | 5, _ => by kernel_rfl
  | 6, _ => by kernel_rfl
  | 7, _ => by kernel_rfl
  | n + 8, h => by omega
theorem k2_f : eachF (fun x => tickC (some d1) x 0) (some d1) os1 8 = [frZ 385 [0]] := by kernel_rfl
theorem k3_o : ∀ i, i < 8 → (eachO (fun x => tickC (some d7) x 10) (some d7) 10 os2 8) i = os3 i
  | 0, _ => by kernel_rfl
  | 1, _ => by kernel_rfl
  | 2, _ => by kernel_rfl
  | 3, _ => by kernel_rfl
  | 4, _ => by kernel_rfl
  | 5, _ => by kernel_rfl
  | 6, _ => by kernel_rfl
  | 7, _ => by kernel_rfl
  | n + 8, h => by omega
theorem k3_f : eachF (fun x => tickC (some d7) x 10) (some d7) os2 8 = [frZ 385 [7]] := by kernel_rfl
theorem k5_o : ∀ i, i < 8 → (beatO (some d7) 1 0 os4 8) i = os5 i
  | 0, _ => by kernel_rfl
  | 1, _ => by kernel_rfl
  | 2, _ => by kernel_rfl
  | 3, _ => by kernel_rfl
  | 4, _ => by kernel_rfl
  | 5, _ => by kernel_rfl
  | 6, _ => by kernel_rfl
  | 7, _ => by kernel_rfl
  | n + 8, h => by omega
theorem k5_f : beatF (some d7) 0 os4 8 = [] := by kernel_rfl
theorem k6_o : ∀ i, i < 8 → (beatO (some d7) 1 0 os5 8) i = os6 i
  | 0, _ => by kernel_rfl
  | 1, _ => by kernel_rfl
  | 2, _ => by kernel_rfl
  | 3, _ => by kernel_rfl
  | 4, _ => by kernel_rfl
  | 5, _ => by kernel_rfl
  | 6, _ => by kernel_rfl
  | 7, _ => by kernel_rfl
  | n + 8, h => by omega
theorem k6_f : beatF (some d7) 0 os5 8 = [] := by kernel_rfl
theorem k7_o : ∀ i, i < 8 → (beatO (some d7) 1 0 os6 8) i = os7 i
  | 0, _ => by kernel_rfl
  | 1, _ => by kernel_rfl
  | 2, _ => by kernel_rfl
  | 3, _ => by kernel_rfl
  | 4, _ => by kernel_rfl
  | 5, _ => by kernel_rfl
  | 6, _ => by kernel_rfl
  | 7, _ => by kernel_rfl
  | n + 8, h => by omega
theorem k7_f : beatF (some d7) 0 os6 8 = [frZ 641 [7]] := by kernel_rfl
theorem kA_o : ∀ i, i < 8 → (beatO (some d7) 2 3 os9 8) i = os9 i
  | 0, _ => by kernel_rfl
  | 1, _ => by kernel_rfl
  | 2, _ => by kernel_rfl
  | 3, _ => by kernel_rfl
  | 4, _ => by kernel_rfl
  | 5, _ => by kernel_rfl
  | 6, _ => by kernel_rfl
  | 7, _ => by kernel_rfl
  | n + 8, h => by omega
theorem kA_f : beatF (some d7) 3 os9 8 = [] := by kernel_rfl
theorem kB_o : ∀ i, i < 8 → (beatO (some d7) 3 4 os9 8) i = osB i
  | 0, _ => by kernel_rfl
  | 1, _ => by kernel_rfl
  | 2, _ => by kernel_rfl
  | 3, _ => by kernel_rfl
  | 4, _ => by kernel_rfl
  | 5, _ => by kernel_rfl
  | 6, _ => by kernel_rfl
  | 7, _ => by kernel_rfl
  | n + 8, h => by omega
theorem kB_f : beatF (some d7) 4 os9 8 = [frZ 897 [7]] := by kernel_rfl
theorem kC_o : ∀ i, i < 8 → (beatO (some d7) 4 5 osB 8) i = osC i
  | 0, _ => by kernel_rfl
  | 1, _ => by kernel_rfl
  | 2, _ => by kernel_rfl
  | 3, _ => by kernel_rfl
  | 4, _ => by kernel_rfl
  | 5, _ => by kernel_rfl
  | 6, _ => by kernel_rfl
  | 7, _ => by kernel_rfl
  | n + 8, h => by omega
theorem kC_f : beatF (some d7) 5 osB 8 = [] := by kernel_rfl
theorem kD_o : ∀ i, i < 8 → (beatO (some d7) 5 6 osC 8) i = osD i
  | 0, _ => by kernel_rfl
  | 1, _ => by kernel_rfl
  | 2, _ => by kernel_rfl
  | 3, _ => by kernel_rfl
  | 4, _ => by kernel_rfl
  | 5, _ => by kernel_rfl
  | 6, _ => by kernel_rfl
  | 7, _ => by kernel_rfl
  | n + 8, h => by omega
theorem kD_f : beatF (some d7) 6 osC 8 = [frZ 897 [7]] := by kernel_rfl
theorem kE_o : ∀ i, i < 8 → (eachO (fun x => tickC (some d7) x 19) (some d7) 19 osE 8) i = osE i
  | 0, _ => by kernel_rfl
  | 1, _ => by kernel_rfl
  | 2, _ => by kernel_rfl
  | 3, _ => by kernel_rfl
  | 4, _ => by kernel_rfl
  | 5, _ => by kernel_rfl
  | 6, _ => by kernel_rfl
  | 7, _ => by kernel_rfl
  | n + 8, h => by omega
theorem kE_f : eachF (fun x => tickC (some d7) x 19) (some d7) osE 8 = [] := by kernel_rfl
theorem kF_o : ∀ i, i < 8 → (eachO (fun x => tickC (some d7) x 20) (some d7) 20 osE 8) i = osF i
  | 0, _ => by kernel_rfl
  | 1, _ => by kernel_rfl
  | 2, _ => by kernel_rfl
  | 3, _ => by kernel_rfl
  | 4, _ => by kernel_rfl
  | 5, _ => by kernel_rfl
  | 6, _ => by kernel_rfl
  | 7, _ => by kernel_rfl
  | n + 8, h => by omega
theorem kF_f : eachF (fun x => tickC (some d7) x 20) (some d7) osE 8 = [frZ 385 [7]] := by kernel_rfl
theorem kG_o : ∀ i, i < 8 → (eachO (fun x => tickC (some d7) x 69) (some d7) 69 osF 8) i = osF i
  | 0, _ => by kernel_rfl
  | 1, _ => by kernel_rfl
  | 2, _ => by kernel_rfl
  | 3, _ => by kernel_rfl
  | 4, _ => by kernel_rfl
  | 5, _ => by kernel_rfl
  | 6, _ => by kernel_rfl
  | 7, _ => by kernel_rfl
  | n + 8, h => by omega
theorem kG_f : eachF (fun x => tickC (some d7) x 69) (some d7) osF 8 = [] := by kernel_rfl
theorem kH_o : ∀ i, i < 8 → (eachO (fun x => tickC (some d7) x 70) (some d7) 70 osF 8) i = osG i
  | 0, _ => by kernel_rfl
  | 1, _ => by kernel_rfl
  | 2, _ => by kernel_rfl
  | 3, _ => by kernel_rfl
  | 4, _ => by kernel_rfl
  | 5, _ => by kernel_rfl
  | 6, _ => by kernel_rfl
  | 7, _ => by kernel_rfl
  | n + 8, h => by omega
theorem kH_f : eachF (fun x => tickC (some d7) x 70) (some d7) osF 8 = [frZ 385 [7]] := by kernel_rfl
theorem k_due : dueR (dueL (some d7) os3 8) = (60, true) := by kernel_rfl
theorem k1_o : ∀ i, i < 8 → (fun i => (upd (fun _ => zOb) 0 ((setOb cA oneM).begin_ 0) i).begin_ 0) i = os1 i
  | 0, _ => by kernel_rfl
  | 1, _ => by kernel_rfl
  | 2, _ => by kernel_rfl
  | 3, _ => by kernel_rfl
  | 4, _ => by kernel_rfl
  | 5, _ => by kernel_rfl
  | 6, _ => by kernel_rfl
  | 7, _ => by kernel_rfl
  | n + 8, h => by omega
theorem k4_o : ∀ i, i < 8 → (upd os3 1 ((setOb cB1 oneM).begin_ 10)) i = os4 i
  | 0, _ => by kernel_rfl
  | 1, _ => by kernel_rfl
  | 2, _ => by kernel_rfl
  | 3, _ => by kernel_rfl
  | 4, _ => by kernel_rfl
  | 5, _ => by kernel_rfl
  | 6, _ => by kernel_rfl
  | 7, _ => by kernel_rfl
  | n + 8, h => by omega
theorem k8_o : ∀ i, i < 8 → (upd os7 1 ((setOb zCm []).begin_ 1)) i = os8 i
  | 0, _ => by kernel_rfl
  | 1, _ => by kernel_rfl
  | 2, _ => by kernel_rfl
  | 3, _ => by kernel_rfl
  | 4, _ => by kernel_rfl
  | 5, _ => by kernel_rfl
  | 6, _ => by kernel_rfl
  | 7, _ => by kernel_rfl
  | n + 8, h => by omega
theorem k9_o : ∀ i, i < 8 → (upd os8 2 ((setOb cC oneM).begin_ 1)) i = os9 i
  | 0, _ => by kernel_rfl
  | 1, _ => by kernel_rfl
  | 2, _ => by kernel_rfl
  | 3, _ => by kernel_rfl
  | 4, _ => by kernel_rfl
  | 5, _ => by kernel_rfl
  | 6, _ => by kernel_rfl
  | 7, _ => by kernel_rfl
  | n + 8, h => by omega
theorem kw_o : ∀ i, i < 8 → (upd osD 0 { osD 0 with wanted := true }) i = osE i
  | 0, _ => by kernel_rfl
  | 1, _ => by kernel_rfl
  | 2, _ => by kernel_rfl
  | 3, _ => by kernel_rfl
  | 4, _ => by kernel_rfl
  | 5, _ => by kernel_rfl
  | 6, _ => by kernel_rfl
  | 7, _ => by kernel_rfl
  | n + 8, h => by omega
end Go.Proofs.YtokebpeplopjhaaDoor.Mp
namespace Go.Proofs.YtokebpeplopjhaaDoor.Mp
open Go.RowKit Go.Shelf Go.Proofs.YtokebpeplopjhaaDoor.Rng Go.Proofs.YtokebpeplopjhaaDoorW.PrintWords Go.Proofs.YtokebpeplopjhaaDoorW.PrintMore Go.Proofs.YtokebpeplopjhaaDoorW.PrintLast

set_option maxRecDepth 100000 in
set_option maxHeartbeats 1000000 in
theorem is_cellsI (id : Int) (ad : Addr) (c : Nat) (b : Int) (hb : (Lit.int .u8 b).wf = true) (w : World) (h : ∀ (j : Nat) u, [Value.int .u16 id, .int .i64 1, .int .u8 b, .int .u8 0, .int .u8 0, .int .u8 0, .int .u8 0, .int .u8 0, .int .u8 0, .int .u8 0, .bool false][j]? = some u → w.cell? (ad.add j) = some u) : Calls Tryd.prog 46 #[.slice (some ad) 1 c, .int .u16 id, .int .u8 b] w fun e w' => e = .returned (.bool true) ∧ w = w' := by
  have f : ∀ (j : Nat) u, 0 < j → [Value.int .u16 id, .int .i64 1, .int .u8 b, .int .u8 0, .int .u8 0, .int .u8 0, .int .u8 0, .int .u8 0, .int .u8 0, .int .u8 0, .bool false][j]? = some u → w.cell? ⟨ad.block, ad.off + j, none⟩ = some u := fun j u hj hu => by
    have := h j u hu
    unfold Addr.add at this
    rw [if_neg (by omega)] at this
    exact this
  have y0 := h 0 _ rfl
  rw [show ad.add 0 = ad from rfl] at y0
  have y1 := f 1 _ (by omega) rfl
  have y2 := f 2 _ (by omega) rfl
  have y3 := f 3 _ (by omega) rfl
  have y4 := f 4 _ (by omega) rfl
  have y5 := f 5 _ (by omega) rfl
  have y6 := f 6 _ (by omega) rfl
  have y7 := f 7 _ (by omega) rfl
  have y8 := f 8 _ (by omega) rfl
  have y9 := f 9 _ (by omega) rfl
  have y10 := f 10 _ (by omega) rfl
  clear h f
  have he := fun W => eight_eq W b hb
  go_enter Tryd.func46, Tryd.ntmps46
  go_wp2
  go_ret
  exact ⟨rfl, rfl⟩
theorem PrAt.congr {w : World} {g : Nat} {vd : Value} {os os2 : Nat → Ob} {vm vb : Nat → Value} {goes : Bool} {now : Int} (h : PrAt w g vd os vm vb goes now) (e : ∀ i, i < 8 → os i = os2 i) : PrAt w g vd os2 vm vb goes now :=
  ⟨h.d0, fun i hi j u hu => h.ob i hi j u (by rw [e i hi]; exact hu), h.gs, h.nw, h.fz, fun i hi => by rw [← e i hi]; exact h.ms i hi, fun i hi => by rw [← e i hi]; exact h.bs i hi⟩
/-- A producer and its dictionary. -/
structure KP (B : Nat) (w : World) (g gd bi bs : Nat) (d : DD) (os : Nat → Ob) (goes : Bool) (now : Int) : Prop where
  ex : ∃ vm vb, PrAt w g (.pointer (some ⟨gd, 0, none⟩)) os vm vb goes now
  dd : DictG g B w gd bi bs d
  ne : gd ≠ g ∧ bi ≠ g ∧ bs ≠ g
  ge : B ≤ g
theorem KP.below {B : Nat} {w w' : World} {g gd bi bs : Nat} {d : DD} {os : Nat → Ob} {goes : Bool} {now : Int} (h : KP B w g gd bi bs d os goes now) (hb : Below w.heap.size w w') : KP B w' g gd bi bs d os goes now := by
  obtain ⟨⟨vm, vb, h1⟩, h2, h3, h4⟩ := h
  exact ⟨⟨vm, vb, h1.below hb⟩, h2.below hb, h3, h4⟩
abbrev Fr3 (g gd bi : Nat) (w w' : World) : Prop := Fr (fun k => k = g ∨ k = gd ∨ k = bi) w w'
theorem KP.bel {B : Nat} {w w0 w' : World} {g gd bi bs : Nat} {d : DD} {os : Nat → Ob} {goes : Bool} {now : Int} (h : KP B w g gd bi bs d os goes now) (hf : Fr3 g gd bi w0 w') (hB : B ≤ w0.heap.size) : Below B w0 w' := by
  have hge := h.dd.dictB.ge
  have h4 := h.ge
  exact fr_belowB hf hB (fun k hk e => by rcases e with e | e | e <;> omega)
theorem KP.lt {B : Nat} {w : World} {g gd bi bs : Nat} {d : DD} {os : Nat → Ob} {goes : Bool} {now : Int} (h : KP B w g gd bi bs d os goes now) : g < w.heap.size := by
  obtain ⟨⟨vm, vb, h1⟩, -⟩ := h
  exact h1.lt
/-- What the calls ask of the objects. -/
structure OkB (x : Ob) : Prop where
  mw : (∀ m ∈ x.maps, m.Wf) ∧ x.maps.length ≤ 1000
  id : 0 ≤ x.cm.id
  kc : (0 ≤ x.cm.kind ∧ x.cm.kind < 256) ∧ 0 ≤ x.counts ∧ x.counts < 1000
theorem okB_I {c : Cm} {s : Bool} {bts : List Int} {a k : Int} {bg : Bool} (h : 0 ≤ c.id ∧ (0 ≤ c.kind ∧ c.kind < 256) ∧ 0 ≤ k ∧ k < 1000) : OkB (obI c s bts a k bg) := ⟨⟨oneM_ok, (by decide : oneM.length ≤ 1000)⟩, h.1, h.2.1, h.2.2⟩
theorem okB_W {c : Cm} {s : Bool} {bts : List Int} {a k : Int} {bg : Bool} (h : 0 ≤ c.id ∧ (0 ≤ c.kind ∧ c.kind < 256) ∧ 0 ≤ k ∧ k < 1000) : OkB { obI c s bts a k bg with wanted := true } := ⟨⟨oneM_ok, (by decide : oneM.length ≤ 1000)⟩, h.1, h.2.1, h.2.2⟩
theorem okB_Z (n : Int) : OkB (oZ n) := ⟨⟨(by intro m hm; cases hm), (by decide : ([] : List Mp).length ≤ 1000)⟩, (by decide : (0 : Int) ≤ 0), ⟨⟨(by decide : (0 : Int) ≤ 0), (by decide : (0 : Int) < 256)⟩, (by decide : (0 : Int) ≤ 0), (by decide : (0 : Int) < 1000)⟩⟩
theorem okB_K {a b c z : Ob} (ha : OkB a) (hb : OkB b) (hc : OkB c) (hz : OkB z) : ∀ i, i < 8 → OkB (K3 a b c z i) := by
  intro i _
  unfold K3
  split
  · exact ha
  · split
    · exact hb
    · split
      · exact hc
      · exact hz
theorem ktick {B : Nat} {w : World} {g gd bi bs : Nat} {d : DD} {os os2 : Nat → Ob} {n0 : Int} (h : KP B w g gd bi bs d os true n0) (hG : Good d) (ht : TblB B w) (hok : ∀ i, i < 8 → OkB (os i)) (now : Int) (htm : timeC now) (fl : List Frm.Fm) (n : Nat) (hn : fl.length = n) (hf : eachF (fun x => tickC (some d) x now) (some d) os 8 = fl) (ho : ∀ i, i < 8 → eachO (fun x => tickC (some d) x now) (some d) now os 8 i = os2 i) :
    Calls Tryd.prog 45 #[.pointer (some ⟨g, 0, none⟩), .int .i64 now] w fun e w' => ∃ A c, e = .returned (.slice A n c) ∧ kI.C w' A n (frL fl) ∧ KP B w' g gd bi bs d os2 true now ∧ Fr3 g gd bi w w' := by
  obtain ⟨⟨vm, vb, h1⟩, h2, h3, h4⟩ := h
  refine (pTick_any B g gd bi bs d os vm vb n0 now w h1 h2.dictB h3 hG ht h4 (fun i hi => (hok i hi).mw) (fun i hi => (hok i hi).id) htm).mono ?_
  rintro e w' ⟨A, cc, rfl, q1, ⟨vb', q2⟩, q3, -⟩
  rw [hf, hn] at q1 ⊢
  exact ⟨A, cc, rfl, q1, ⟨⟨vm, vb', q2.congr ho⟩, h2.set q3 h3, h3, h4⟩, q3.mono (fun k e => .inl e)⟩
theorem ksync {B : Nat} {w : World} {g gd bi bs : Nat} {d : DD} {os os2 : Nat → Ob} {n0 : Int} (h : KP B w g gd bi bs d os true n0) (hG : Good d) (ht : TblB B w) (hok : ∀ i, i < 8 → OkB (os i)) (count now : Int) (htm : timeC now) (fl : List Frm.Fm) (n : Nat) (hn : fl.length = n) (hf : beatF (some d) count os 8 = fl) (ho : ∀ i, i < 8 → beatO (some d) now count os 8 i = os2 i) :
    Calls Tryd.prog 47 #[.pointer (some ⟨g, 0, none⟩), .int .u8 count, .int .i64 now] w fun e w' => ∃ A c, e = .returned (.slice A n c) ∧ kI.C w' A n (frL fl) ∧ KP B w' g gd bi bs d os2 true now ∧ Fr3 g gd bi w w' := by
  obtain ⟨⟨vm, vb, h1⟩, h2, h3, h4⟩ := h
  refine (pSync_any B g gd bi bs d os vm vb n0 now count w h1 h2.dictB h3 hG ht h4 (fun i hi => (hok i hi).mw) (fun i hi => (hok i hi).id) htm (fun i hi _ => (hok i hi).kc)).mono ?_
  rintro e w' ⟨A, cc, rfl, q1, ⟨vb', q2⟩, q3, -⟩
  rw [hf, hn] at q1 ⊢
  exact ⟨A, cc, rfl, q1, ⟨⟨vm, vb', q2.congr ho⟩, h2.set q3 h3, h3, h4⟩, q3.mono (fun k e => .inl e)⟩
def KSaid (B : Nat) (w : World) (g gd bi bs : Nat) (d : DD) (os : Nat → Ob) (goes : Bool) (now : Int) (v : Value) (e : Ending) (w' : World) : Prop := e = .returned v ∧ KP B w' g gd bi bs d os goes now ∧ Fr3 g gd bi w w'
theorem kset {B : Nat} {w : World} {g gd bi bs : Nat} {d : DD} {os os2 : Nat → Ob} {goes : Bool} {n0 : Int} (h : KP B w g gd bi bs d os goes n0) (hG : Good d) (ht : TblB B w) (i : Nat) (hi : i < 8) (c : Cm) (l : List Mp) (A : Option Addr) (cc : Nat) (hm : MsAt w A l) (hmn : ∀ ad, A = some ad → 0 < l.length → ad.block ≠ g) (hl : l.length ≤ 64) (hmw : ∀ m ∈ l, m.Wf) (hc : cmOk c) (hon : c.on = true) (hck : checkC (some d) l true = 0) (ho : ∀ k, k < 8 → upd os i ((setOb c l).begin_ n0) k = os2 k) :
    Calls Tryd.prog 40 #[.pointer (some ⟨g, 0, none⟩), .int .i64 i, c.v, .slice A l.length cc] w (KSaid B w g gd bi bs d os2 goes n0 (.int .u32 0)) := by
  obtain ⟨⟨vm, vb, h1⟩, h2, h3, h4⟩ := h
  refine (pset_yes B g gd bi bs d os vm vb goes n0 i hi c l A cc w h1 h2.dictB hG ht.tbl hm hmn hl hmw hc hon hck).mono ?_
  rintro e w' ⟨rfl, ⟨vm', vb', q1⟩, q2⟩
  exact ⟨rfl, ⟨⟨vm', vb', q1.congr ho⟩, h2.set q2 h3, h3, h4⟩, q2.mono (fun k e => .inl e)⟩
theorem kset_off {B : Nat} {w : World} {g gd bi bs : Nat} {d : DD} {os os2 : Nat → Ob} {goes : Bool} {n0 : Int} (h : KP B w g gd bi bs d os goes n0) (i : Nat) (hi : i < 8) (c : Cm) (l : List Mp) (A : Option Addr) (cc : Nat) (hm : MsAt w A l) (hmn : ∀ ad, A = some ad → 0 < l.length → ad.block ≠ g) (hl : l.length ≤ 64) (hc : cmOk c) (hon : c.on = false) (ho : ∀ k, k < 8 → upd os i ((setOb c l).begin_ n0) k = os2 k) :
    Calls Tryd.prog 40 #[.pointer (some ⟨g, 0, none⟩), .int .i64 i, c.v, .slice A l.length cc] w (KSaid B w g gd bi bs d os2 goes n0 (.int .u32 0)) := by
  obtain ⟨⟨vm, vb, h1⟩, h2, h3, h4⟩ := h
  refine (pset_off g _ os vm vb goes n0 i hi c l A cc w h1 hm hmn hl hc hon).mono ?_
  rintro e w' ⟨rfl, ⟨vm', vb', q1⟩, q2⟩
  exact ⟨rfl, ⟨⟨vm', vb', q1.congr ho⟩, h2.set q2 h3, h3, h4⟩, q2.mono (fun k e => .inl e)⟩
theorem kstart {B : Nat} {w : World} {g gd bi bs : Nat} {d : DD} {os os2 : Nat → Ob} {goes : Bool} {n0 : Int} (h : KP B w g gd bi bs d os goes n0) (now : Int) (hn : timeC now) (ho : ∀ k, k < 8 → (os k).begin_ now = os2 k) :
    Calls Tryd.prog 43 #[.pointer (some ⟨g, 0, none⟩), .int .i64 now] w (KSaid B w g gd bi bs d os2 true now (.tuple #[])) := by
  obtain ⟨⟨vm, vb, h1⟩, h2, h3, h4⟩ := h
  refine (pstart_any g _ os vm vb goes n0 now w h1 hn).mono ?_
  rintro e w' ⟨rfl, ⟨os', vb', q0, q1⟩, q2⟩
  exact ⟨rfl, ⟨⟨vm, vb', q1.congr (fun k hk => (q0 k hk).trans (ho k hk))⟩, h2.set q2 h3, h3, h4⟩, q2.mono (fun k e => .inl e)⟩
theorem kstop {B : Nat} {w : World} {g gd bi bs : Nat} {d : DD} {os : Nat → Ob} {goes : Bool} {n0 : Int} (h : KP B w g gd bi bs d os goes n0) :
    Calls Tryd.prog 61 #[.pointer (some ⟨g, 0, none⟩)] w (KSaid B w g gd bi bs d os false n0 (.tuple #[])) := by
  obtain ⟨⟨vm, vb, h1⟩, h2, h3, h4⟩ := h
  refine (pstop_any g _ os vm vb goes n0 w h1).mono ?_
  rintro e w' ⟨rfl, q1, q2, -⟩
  exact ⟨rfl, ⟨⟨vm, vb, q1⟩, h2.set q2 h3, h3, h4⟩, q2.mono (fun k e => .inl e)⟩
theorem kwant {B : Nat} {w : World} {g gd bi bs : Nat} {d : DD} {os os2 : Nat → Ob} {n0 : Int} (h : KP B w g gd bi bs d os true n0) (i : Nat) (hi : i < 8) (hon : (os i).cm.on = true) (ho : ∀ k, k < 8 → upd os i { os i with wanted := true } k = os2 k) :
    Calls Tryd.prog 60 #[.pointer (some ⟨g, 0, none⟩), .int .i64 i] w (KSaid B w g gd bi bs d os2 true n0 (.bool true)) := by
  obtain ⟨⟨vm, vb, h1⟩, h2, h3, h4⟩ := h
  refine (pwant_on g _ os vm vb n0 i hi w h1 hon).mono ?_
  rintro e w' ⟨rfl, q1, q2, -⟩
  exact ⟨rfl, ⟨⟨vm, vb, q1.congr ho⟩, h2.set q2 h3, h3, h4⟩, q2.mono (fun k e => .inl e)⟩
theorem kwrite {B : Nat} {w : World} {g gd bi bs : Nat} {d : DD} {os : Nat → Ob} {goes : Bool} {n0 : Int} (h : KP B w g gd bi bs d os goes n0) (hG : Good d) (ht : TblB B w) (i s : Int) (hi : 0 ≤ i ∧ i < 65536) (hs : 0 ≤ s ∧ s < 256) (A : Option Addr) (c : Nat) (b : List Int) (hb : ArgV w (.slice A b.length c) b) :
    Calls Tryd.prog 20 #[.pointer (some ⟨gd, 0, none⟩), pl i s, .slice A b.length c] w (KSaid B w g gd bi bs (wrtC d i s b) os goes n0 (.int .u32 (mayW (some d) i s b).2)) := by
  have hlt := h.lt
  obtain ⟨⟨vm, vb, h1⟩, h2, h3, h4⟩ := h
  refine (write_anyG g B gd bi bs d hG i s hi hs A c b w h2 (Nat.le_of_lt hlt) ht.tbl hb).mono ?_
  rintro e w' ⟨rfl, q1, q2⟩
  exact ⟨rfl, ⟨⟨vm, vb, h1.frM q2 h2.dictB.noByte (by rintro (e | e); exact h3.1 e.symm; exact h3.2.1 e.symm)⟩, q1, h3, h4⟩, q2.mono (fun k e => .inr e)⟩
/-- One frame of an identifier and a byte. -/
theorem is_fr (id b : Int) (A : Option Addr) (c : Nat) (hb : 0 ≤ b ∧ b < 256) (hid : 0 ≤ id ∧ id ≤ 2047) (w : World) (h : kI.C w A 1 (frL [frZ id [b]])) : Calls Tryd.prog 46 #[.slice A 1 c, .int .u16 id, .int .u8 b] w fun e w' => e = .returned (.bool true) ∧ w = w' := by
  have hz : (frZ id [b]).cells = #[.int .u16 id, .int .i64 1, .int .u8 b, .int .u8 0, .int .u8 0, .int .u8 0, .int .u8 0, .int .u8 0, .int .u8 0, .int .u8 0, .bool false] := by
    unfold frZ
    rw [if_pos ⟨hid.2, by simp⟩]
    rfl
  have h' : kI.C w A 1 [(frZ id [b]).cells.toList] := h
  rw [hz] at h'
  obtain ⟨ad, hA, hc⟩ := h'.2.2 (by omega)
  subst hA
  obtain ⟨cs, hcl, ⟨rfl, -, -⟩, hcell⟩ := hc 0 _ rfl
  exact is_cellsI id ad c b (wf_of_u8 hb) w (fun j u hu => by
    have := hcell j u hu
    rwa [Nat.zero_mul, Nat.zero_add] at this)
end Go.Proofs.YtokebpeplopjhaaDoor.Mp
