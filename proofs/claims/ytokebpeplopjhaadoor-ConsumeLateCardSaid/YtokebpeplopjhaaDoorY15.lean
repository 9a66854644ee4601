/- Consumers: Set, where it is done. Consumers: Start. bytes.Equal; mapping.Pack, whether it may be or not; a producer's changed. -/
import Derived.Test.YtokebpeplopjhaaDoorY13
import Derived.Test.YtokebpeplopjhaaDoorY14
import Derived.Test.YtokebpeplopjhaaDoorY9
import Derived.StillTailTactics
import Derived.Deep.RegionHeld3
import Derived.Deep.MidRow
import Derived.Deep.DeepCutAuto
import Derived.Laws.Strings
set_option linter.unusedSimpArgs false
set_option linter.unusedVariables false
namespace Go.Proofs.YtokebpeplopjhaaDoor.Mp
open Go.RowKit Go.Shelf Go.Proofs.YtokebpeplopjhaaDoor.Rng Go.Proofs.YtokebpeplopjhaaDoorW.PrintWords Go.Proofs.YtokebpeplopjhaaDoorW.PrintMore Go.Proofs.YtokebpeplopjhaaDoorW.PrintLast

theorem size_co : (Tryd.prog.info? 165).map (·.size) = some 20 := by kernel_rfl
theorem CnAt.there {w : World} {g : Nat} {vd : Value} {os : Nat → Co} {vm : Nat → Value} {goes : Bool} (h : CnAt w g vd os vm goes) {i : Nat} (hi : i < 8) : w.there g (1 + i * 20) 20 := fun j hj => by
  have hl : ((os i).cells (vm i)).length = 20 := rfl
  rw [h.ob i hi j _ (List.getElem?_eq_getElem (by rw [hl]; omega))]
  exact ⟨rfl, h.fz _⟩
theorem CnAt.setCo {w : World} {g : Nat} {vd : Value} {os : Nat → Co} {vm : Nat → Value} {goes : Bool} (h : CnAt w g vd os vm goes) {i : Nat} (hi : i < 8) (c : Cm) (l : List Mp) (v : Value) (hv : MsN g w v l) :
    CnAt (w.setCells g (1 + i * 20) ((setCo c l).cells v)) g vd (upd os i (setCo c l)) (upd vm i v) goes :=
  h.store hi (t := 0) ((Mp.setCo c l).cells v) (Nat.le_refl _) (Mp.setCo c l) v (fun j u hu => .inl ⟨by omega, by have hj : j < 20 := (List.getElem?_eq_some_iff.1 hu).1; show j < 0 + 20; omega, hu⟩) hv
theorem one20 (on : Bool) (id kind inh ev st : Int) (A : Option Addr) (n c : Nat) : ∀ v ∈ ([.bool on, .int .u16 id, .int .u8 kind, .int .i64 inh, .int .i64 ev, .int .u8 st, .slice A n c, .bool false, .int .i64 0, .bool false, .bool false, .int .u8 0, .int .u8 0, .int .u8 0, .int .u8 0, .int .u8 0, .int .u8 0, .int .u8 0, .int .u8 0, .int .i64 0] : List Value), v.oneCell' = true := by
  intro v hv
  simp only [List.mem_cons, List.not_mem_nil, or_false] at hv
  rcases hv with rfl | rfl | rfl | rfl | rfl | rfl | rfl | rfl | rfl | rfl | rfl | rfl | rfl | rfl | rfl | rfl | rfl | rfl | rfl | rfl <;> rfl
set_option maxRecDepth 100000 in
set_option maxHeartbeats 4000000 in
theorem cset_yes (B g gd bi bs : Nat) (d : DD) (os : Nat → Co) (vm : Nat → Value) (goes : Bool) (i : Nat) (hi : i < 8) (c : Cm) (l : List Mp) (A : Option Addr) (cc : Nat) (w : World) (h : CnAt w g (.pointer (some ⟨gd, 0, none⟩)) os vm goes) (hD : DictB B w gd bi bs d) (hG : Good d) (ht : Tbl w) (hm : MsAt w A l) (hmn : ∀ ad, A = some ad → 0 < l.length → ad.block ≠ g) (hl : l.length ≤ 64) (hmw : ∀ m ∈ l, m.Wf) (hc : cmOk c) (hon : c.on = true) (hck : checkC (some d) l false = 0) :
    Calls Tryd.prog 50 #[.pointer (some ⟨g, 0, none⟩), .int .i64 i, c.v, .slice A l.length cc] w fun e w' => e = .returned (.int .u32 0) ∧ (∃ vm', CnAt w' g (.pointer (some ⟨gd, 0, none⟩)) (upd os i (setCo c l)) vm' goes) ∧ Fr (fun k => k = g) w w' := by
  have hgl := h.lt
  have HP := Aside0.mk h
  have HD := Aside0.mk hD
  have HT := Aside0.mk ht
  have HG := Aside0.mk hG
  have HM := Aside0.mk hm
  have HMN := Aside0.mk hmn
  have HMW := Aside0.mk hmw
  have HCK := Aside0.mk hck
  have hmay := fun X => cmay_any c X
  rw [decide_eq_true hc] at hmay
  have HMY := Aside0.mk hmay
  have hi0 : (0 : Int) ≤ (i : Int) := by omega
  have hi8 : (i : Int) < 8 := by omega
  have hn8 : ¬ (8 : Int) ≤ (i : Int) := by omega
  obtain ⟨n, hn⟩ : ∃ n, l.length = n := ⟨_, rfl⟩
  have HN := Aside0.mk hn
  have hnl : ¬ (64 : Int) < (n : Int) := by omega
  rw [hn] at hl ⊢
  obtain ⟨on, id, kind, inh, ev, st⟩ := c
  simp only at hon
  subst hon
  have hbx : ∀ o, Below w.heap.size w (w.alloc o) := fun o => below_alloc (Below.refl _ _) _
  have hbox := blk_new w (.cells #[.bool true, .int .u16 id, .int .u8 kind, .int .i64 inh, .int .i64 ev, .int .u8 st] 82)
  have HBOX := Aside0.mk hbox
  have HB0 := Aside0.mk (hbx (.cells #[.bool true, .int .u16 id, .int .u8 kind, .int .i64 inh, .int .i64 ev, .int .u8 st] 82))
  clear h hD ht hG hm hmn hmw hck hmay hc hn hbox hbx
  go_enter Tryd.func50, Tryd.ntmps50
  go_wp2_with (first
    | (go_at_call 98; refine (HMY.out _).mono ?_; rintro e w1 ⟨rfl, hb1⟩; have HB1 := Aside0.mk (HB0.out.trans (hb1.mono HB0.out.size)); have hb0 := Go.Proofs.YtokebpeplopjhaaDoorW.PrintWords.blk_cell (blk_below HBOX.out hb1) 0; have d0 := pw_cell_below HB1.out HP.out.d0; have HX1 := Aside0.mk (blk_below HBOX.out hb1); clear hb1)
    | (go_at_call 21; rw [← HN.out]; refine (mcheck_any B (.pointer (some ⟨gd, 0, none⟩)) (some d) l A cc false w1 ⟨gd, rfl, (HD.out.below HB1.out).dict⟩ (HT.out.below HB1.out) (HM.out.below HB1.out) (by have := HN.out; omega) HMW.out HG.out.find).mono ?_; rw [HCK.out]; rintro e w2 ⟨rfl, hb2⟩; rw [HN.out]; have HB2 := Aside0.mk (HB1.out.trans (hb2.mono HB1.out.size)); have HX2 := Aside0.mk (blk_below HX1.out hb2); clear hb2 hb0 d0))
  have hP2 := HP.out.below HB2.out
  have hx2 := HX2.out
  have hneb : w.heap.size ≠ g := by omega
  have hS0 : Fr (fun k => k = g) w2 w2.drew ∧ w2.drew.there g (1 + i * 20) 20 := ⟨Fr.of_below (below_drew (Below.refl _ _)), there_below (hP2.there hi) (below_drew (Below.refl _ _))⟩
  have u0 : ∀ X, (Fr (fun k => k = g) w2 X ∧ X.there g (1 + i * 20) 20) → X.cell? ⟨w.heap.size, 0, none⟩ = some (.bool true) := fun X hX => hX.1.cell (Go.Proofs.YtokebpeplopjhaaDoorW.PrintWords.blk_cell hx2 0) hneb
  have u1 : ∀ X, (Fr (fun k => k = g) w2 X ∧ X.there g (1 + i * 20) 20) → X.cell? ⟨w.heap.size, 1, none⟩ = some (.int .u16 id) := fun X hX => hX.1.cell (Go.Proofs.YtokebpeplopjhaaDoorW.PrintWords.blk_cell hx2 1) hneb
  have u2 : ∀ X, (Fr (fun k => k = g) w2 X ∧ X.there g (1 + i * 20) 20) → X.cell? ⟨w.heap.size, 1 + 1, none⟩ = some (.int .u8 kind) := fun X hX => hX.1.cell (Go.Proofs.YtokebpeplopjhaaDoorW.PrintWords.blk_cell hx2 2) hneb
  have u3 : ∀ X, (Fr (fun k => k = g) w2 X ∧ X.there g (1 + i * 20) 20) → X.cell? ⟨w.heap.size, 1 + 1 + 1, none⟩ = some (.int .i64 inh) := fun X hX => hX.1.cell (Go.Proofs.YtokebpeplopjhaaDoorW.PrintWords.blk_cell hx2 3) hneb
  have u4 : ∀ X, (Fr (fun k => k = g) w2 X ∧ X.there g (1 + i * 20) 20) → X.cell? ⟨w.heap.size, 1 + 1 + 1 + 1, none⟩ = some (.int .i64 ev) := fun X hX => hX.1.cell (Go.Proofs.YtokebpeplopjhaaDoorW.PrintWords.blk_cell hx2 4) hneb
  have u5 : ∀ X, (Fr (fun k => k = g) w2 X ∧ X.there g (1 + i * 20) 20) → X.cell? ⟨w.heap.size, 1 + 1 + 1 + 1 + 1, none⟩ = some (.int .u8 st) := fun X hX => hX.1.cell (Go.Proofs.YtokebpeplopjhaaDoorW.PrintWords.blk_cell hx2 5) hneb
  have HP2 := Aside0.mk hP2
  have HM2 := Aside0.mk (show MsN g w2 (.slice A l.length cc) l from ⟨A, cc, rfl, HM.out.below HB2.out, HMN.out⟩)
  have HCL := Aside0.mk fun (X : World) (hX : Fr (fun k => k = g) w2 X) => mclone_any A cc l X (by obtain ⟨A', c', e, q, -⟩ := HM2.out.set hX; injection e with e1 e2 e3; subst e1; exact q) (by have := HN.out; omega)
  rw [HN.out] at HCL
  clear hP2 hx2
  refine wp_region_held_drew (S := (fun X => Fr (fun k => k = g) w2 X ∧ X.there g (1 + i * 20) 20)) (by kernel_rfl) hS0 (fun hHeld => ?_)
  refine wpAnyH_take (i := 0) (oi := _) (v := ?_) rfl (by kernel_rfl) (by kernel_rfl) (by kernel_rfl) (fun _ _ _ h => h) (Or.inl ⟨rfl, ?_⟩) hHeld ?_
  rotate_left
  · intro w hSw
    try dsimp only at hSw
    go_simp
    try exact rfl
  try simp only [Act.put, List.setIfInBounds_toArray, List.set_cons_zero, List.set_cons_succ]
  refine wpAnyH_take (i := 1) (oi := _) (v := ?_) rfl (by kernel_rfl) (by kernel_rfl) (by kernel_rfl) (fun _ _ _ h => h) (Or.inl ⟨rfl, ?_⟩) hHeld ?_
  rotate_left
  · intro w hSw
    try dsimp only at hSw
    go_simp
    try exact rfl
  try simp only [Act.put, List.setIfInBounds_toArray, List.set_cons_zero, List.set_cons_succ]
  refine wpAnyH_take (i := 2) (oi := _) (v := ?_) rfl (by kernel_rfl) (by kernel_rfl) (by kernel_rfl) (fun _ _ _ h => h) (Or.inl ⟨rfl, ?_⟩) hHeld ?_
  rotate_left
  · intro w hSw
    try dsimp only at hSw
    go_simp
    try exact rfl
  try simp only [Act.put, List.setIfInBounds_toArray, List.set_cons_zero, List.set_cons_succ]
  refine wpAnyH_take (i := 3) (oi := _) (v := ?_) rfl (by kernel_rfl) (by kernel_rfl) (by kernel_rfl) (fun _ _ _ h => h) (Or.inl ⟨rfl, ?_⟩) hHeld ?_
  rotate_left
  · intro w hSw
    try dsimp only at hSw
    go_simp
    try exact rfl
  try simp only [Act.put, List.setIfInBounds_toArray, List.set_cons_zero, List.set_cons_succ]
  refine wpAnyH_take (i := 6) (oi := _) (v := ?_) rfl (by kernel_rfl) (by kernel_rfl) (by kernel_rfl) (fun _ _ _ h => h) (Or.inl ⟨rfl, ?_⟩) hHeld ?_
  rotate_left
  · intro w hSw
    try dsimp only at hSw
    go_simp
    try exact rfl
  try simp only [Act.put, List.setIfInBounds_toArray, List.set_cons_zero, List.set_cons_succ]
  refine wpAnyH_take (i := 7) (oi := _) (v := ?_) rfl (by kernel_rfl) (by kernel_rfl) (by kernel_rfl) (fun _ _ _ h => h) (Or.inl ⟨rfl, ?_⟩) hHeld ?_
  rotate_left
  · intro w hSw
    try dsimp only at hSw
    go_simp
    try exact rfl
  try simp only [Act.put, List.setIfInBounds_toArray, List.set_cons_zero, List.set_cons_succ]
  refine wpAnyH_ready (rs := [4]) (by kernel_rfl) (by simp) ?_
  refine AllReadyH.cons (o := _) rfl (fun K hK => ?_) AllReadyH.nil
  go_simp
  with_reducible refine (HCL.out _ (And.left hHeld)).mono ?_
  rintro e w3 ⟨v3, rfl, hm3, hb3⟩
  obtain ⟨A3, c3, hv3, hms3, hge3⟩ := hm3
  rw [HN.out] at hv3
  subst hv3
  have hS3 := S_step hHeld hb3
  have HS3 := Aside0.mk hS3
  have HM3 := Aside0.mk (And.intro hms3 hge3)
  have HB3 := Aside0.mk hb3
  clear hms3 hge3 hb3
  refine hK.out _ _ hS3 (fun hHeld2 => ?_)
  clear hK K
  try simp only [Act.put, List.setIfInBounds_toArray, List.set_cons_zero, List.set_cons_succ]
  refine wpAnyH_take (i := 5) (oi := { dst := some 45, op := Op.build 165 #[(0, Operand.tmp 42), (1, Operand.tmp 44)], type := 165, pos := _, after := _, guard := none }) (v := ?_) rfl (by kernel_rfl) (by kernel_rfl) (by kernel_rfl) (fun _ _ _ h => h) (Or.inl ⟨rfl, ?_⟩) hHeld2 ?_
  rotate_left
  · intro w hSw
    try dsimp only at hSw
    go_simp
    try exact rfl
  try simp only [Act.put, List.setIfInBounds_toArray, List.set_cons_zero, List.set_cons_succ]
  refine wpAnyH_take (i := 8) (oi := { dst := some 48, op := Op.indexAddr 166 (Operand.tmp 47) (Operand.tmp 41), type := 0, pos := _, after := _, guard := none }) (v := ?_) rfl (by kernel_rfl) (by kernel_rfl) (by kernel_rfl) (fun _ _ _ h => h) (Or.inl ⟨rfl, ?_⟩) hHeld2 ?_
  rotate_left
  · intro w hSw
    try dsimp only at hSw
    go_simp
    try exact rfl
  try simp only [Act.put, List.setIfInBounds_toArray, List.set_cons_zero, List.set_cons_succ]
  refine wpAnyH_ready (rs := [9]) (by kernel_rfl) (by simp) ?_
  refine AllReadyH.cons (o := { dst := none, op := Op.store 165 (Operand.tmp 48) (Operand.tmp 45), type := 0, pos := _, after := _, guard := none }) rfl (fun K hK => ?_) AllReadyH.nil
  rw [if_pos (by rfl)]
  refine wp_store_mid _ _ _ rfl _ _ (List.toArray _) rfl rfl ?_ ?_ (all_oneCell_toArray (one20 true id kind inh ev st A3 n c3)) ?_
  · exact hS3.2
  · exact size_co
  simp only [Act.put, List.setIfInBounds_toArray, List.set_cons_zero, List.set_cons_succ, List.toList_toArray]
  refine hK.out _ _ (S_store hHeld2) (fun hHeld3 => ?_)
  clear hK K
  try simp only [Act.put, List.setIfInBounds_toArray, List.set_cons_zero, List.set_cons_succ]
  refine wpAnyH_done (by kernel_rfl) ?_ _
  have HS4 := Aside0.mk hHeld3
  have HP3 := Aside0.mk (HP2.out.below (below_step (below_drew (Below.refl _ _)) HB3.out))
  have hms3 : MsN g w3 (.slice A3 n c3) l := ⟨A3, c3, by rw [HN.out], HM3.out.1, fun ad e _ he => by have h1 := HM3.out.2 ad e; have h2 := HP2.out.lt; simp at h1; omega⟩
  have HP4 := Aside0.mk (HP3.out.setCo hi ⟨true, id, kind, inh, ev, st⟩ l (.slice A3 n c3) hms3)
  clear hHeld hHeld2 hHeld3 hS3 u0 u1 u2 u3 u4 u5 hms3 hS0
  rw [show (setCo ⟨true, id, kind, inh, ev, st⟩ l).cells (.slice A3 n c3) = [.bool true, .int .u16 id, .int .u8 kind, .int .i64 inh, .int .i64 ev, .int .u8 st, .slice A3 n c3, .bool false, .int .i64 0, .bool false, .bool false, .int .u8 0, .int .u8 0, .int .u8 0, .int .u8 0, .int .u8 0, .int .u8 0, .int .u8 0, .int .u8 0, .int .i64 0] from rfl] at HP4
  generalize w3.setCells g (1 + i * 20) [.bool true, .int .u16 id, .int .u8 kind, .int .i64 inh, .int .i64 ev, .int .u8 st, .slice A3 n c3, .bool false, .int .i64 0, .bool false, .bool false, .int .u8 0, .int .u8 0, .int .u8 0, .int .u8 0, .int .u8 0, .int .u8 0, .int .u8 0, .int .u8 0, .int .i64 0] = w4 at HS4 HP4 ⊢
  go_wp2
  go_ret
  refine ⟨rfl, ⟨_, HP4.out⟩, ?_⟩
  exact (Fr.of_below HB2.out).trans HS4.out.1
end Go.Proofs.YtokebpeplopjhaaDoor.Mp
set_option linter.unusedSimpArgs false
set_option linter.unusedVariables false
namespace Go.Proofs.YtokebpeplopjhaaDoor.Mp
open Go.RowKit Go.Shelf Go.Proofs.YtokebpeplopjhaaDoor.Rng Go.Proofs.YtokebpeplopjhaaDoorW.PrintWords Go.Proofs.YtokebpeplopjhaaDoorW.PrintMore Go.Proofs.YtokebpeplopjhaaDoorW.PrintLast

/-- The cells that Start reads, and the row that it writes. -/
def SC (g o : Nat) (w : World) (on : Bool) (id kind inh ev st : Int) (A : Option Addr) (n c : Nat) (X : World) : Prop :=
  Fr (fun k => k = g) w X ∧ X.there g o 20 ∧ X.cell? ⟨g, o, none⟩ = some (.bool on) ∧ X.cell? ⟨g, o + 1, none⟩ = some (.int .u16 id) ∧ X.cell? ⟨g, o + 1 + 1, none⟩ = some (.int .u8 kind) ∧ X.cell? ⟨g, o + 1 + 1 + 1, none⟩ = some (.int .i64 inh) ∧ X.cell? ⟨g, o + 1 + 1 + 1 + 1, none⟩ = some (.int .i64 ev) ∧ X.cell? ⟨g, o + 1 + 1 + 1 + 1 + 1, none⟩ = some (.int .u8 st) ∧ X.cell? ⟨g, o + 6, none⟩ = some (.slice A n c)
theorem SC.store {g o : Nat} {w X : World} {on : Bool} {id kind inh ev st : Int} {A : Option Addr} {n c : Nat} (h : SC g o w on id kind inh ev st A n c X) : SC g o w on id kind inh ev st A n c (X.setCells g o [.bool on, .int .u16 id, .int .u8 kind, .int .i64 inh, .int .i64 ev, .int .u8 st, .slice A n c, .bool false, .int .i64 0, .bool false, .bool false, .int .u8 0, .int .u8 0, .int .u8 0, .int .u8 0, .int .u8 0, .int .u8 0, .int .u8 0, .int .u8 0, .int .i64 0]) := by
  obtain ⟨h1, h2, -⟩ := h
  have hin : ∀ j (hj : j < 20), _ := fun j hj => World.cell?_setCells_in g [.bool on, .int .u16 id, .int .u8 kind, .int .i64 inh, .int .i64 ev, .int .u8 st, .slice A n c, .bool false, .int .i64 0, .bool false, .bool false, .int .u8 0, .int .u8 0, .int .u8 0, .int .u8 0, .int .u8 0, .int .u8 0, .int .u8 0, .int .u8 0, .int .i64 0] o X (fun j hj => (h2 j hj).1) j hj
  exact ⟨h1.trans (fr_cells _ _ _), World.there_setCells h2 _ _ _, hin 0 (by omega), hin 1 (by omega), hin 2 (by omega), hin 3 (by omega), hin 4 (by omega), hin 5 (by omega), hin 6 (by omega)⟩
set_option maxRecDepth 100000 in
set_option maxHeartbeats 4000000 in
theorem cstart_any (g : Nat) (vd : Value) (os : Nat → Co) (vm : Nat → Value) (goes : Bool) (w : World) (h : CnAt w g vd os vm goes) :
    Calls Tryd.prog 53 #[.pointer (some ⟨g, 0, none⟩)] w fun e w' => e = .returned (.tuple #[]) ∧ (∃ os', (∀ i, i < 8 → os' i = setCo (os i).cm (os i).maps) ∧ CnAt w' g vd os' vm true) ∧ Fr (fun k => k = g) w w' := by
  have HP := Aside0.mk h
  have c5 := h.gs
  have f5 := h.fz 161
  clear h
  go_enter Tryd.func53, Tryd.ntmps53
  go_wp2
  have HF0 := Aside0.mk (show Fr (fun k => k = g) w (w.setCell ⟨g, 161, none⟩ (.bool true)) from Fr.setCell (M := fun k => k = g) w ⟨g, 161, none⟩ _ (.inl rfl))
  have HP2 := Aside0.mk (HP.out.setGoes true)
  generalize w.setCell ⟨g, 161, none⟩ (.bool true) = w2 at HF0 HP2 ⊢
  clear c5 f5
  go_loopw [9] (fun iv wr => ∃ (i : Nat), i ≤ 8 ∧ iv = .int .i64 i ∧ Aside0 (∃ os', (∀ k, os' k = if k < i then setCo (os k).cm (os k).maps else os k) ∧ CnAt wr g vd os' vm true) ∧ Aside0 (Fr (fun k => k = g) w wr)) (fun iv _ => 8 - (intOf iv).toNat)
  case atStart => exact ⟨0, by omega, rfl, ⟨os, fun k => by simp, HP2.out⟩, HF0⟩
  case round =>
    obtain ⟨i, hi, rfl, HPR, HF⟩ := hrel
    obtain ⟨os', hos, hpr⟩ := HPR.out
    by_cases hlt : i < 8
    · have hi1 : (i : Int) < 8 := by omega
      have hoi : os' i = os i := by rw [hos i, if_neg (Nat.lt_irrefl i)]
      have hob := hpr.ob i hlt
      have hth := hpr.there hlt
      have hms := hpr.ms i hlt
      obtain ⟨A, cc, hvm, hma, hmn⟩ := hms
      rw [hoi] at hob hma hmn hvm
      have HCM := Aside0.mk (show ∃ on id kind inh ev st, (os i).cm = ⟨on, id, kind, inh, ev, st⟩ from ⟨_, _, _, _, _, _, rfl⟩)
      obtain ⟨on, id, kind, inh, ev, st, hcm⟩ := HCM.out
      obtain ⟨n, hn⟩ : ∃ n, (os i).maps.length = n := ⟨_, rfl⟩
      rw [hvm, hn] at hob
      have q0 := hob 0 _ rfl
      have q1 := hob 1 _ rfl
      have q2 := hob 2 _ rfl
      have q3 := hob 3 _ rfl
      have q4 := hob 4 _ rfl
      have q5 := hob 5 _ rfl
      have q6 := hob 6 _ rfl
      rw [hcm] at q0 q1 q2 q3 q4 q5
      have hS0 : SC g (1 + i * 20) wr on id kind inh ev st A n cc wr.drew := ⟨Fr.of_below (below_drew (Below.refl _ _)), there_below hth (below_drew (Below.refl _ _)), pw_cell_below (below_drew (Below.refl _ _)) q0, pw_cell_below (below_drew (Below.refl _ _)) q1, pw_cell_below (below_drew (Below.refl _ _)) q2, pw_cell_below (below_drew (Below.refl _ _)) q3, pw_cell_below (below_drew (Below.refl _ _)) q4, pw_cell_below (below_drew (Below.refl _ _)) q5, pw_cell_below (below_drew (Below.refl _ _)) q6⟩
      have HPR2 := Aside0.mk hpr
      have HOS := Aside0.mk hos
      have HOI := Aside0.mk hoi
      have HVM := Aside0.mk (And.intro hvm hn)
      have HCM2 := Aside0.mk hcm
      clear q0 q1 q2 q3 q4 q5 q6 hpr hos hoi hob hth hma hmn hvm hcm hn HPR
      go_wp2
      have u0 : ∀ X, SC g (1 + i * 20) wr on id kind inh ev st A n cc X → X.cell? ⟨g, 1 + i * 20, none⟩ = some (.bool on) := fun X hX => hX.2.2.1
      have u1 : ∀ X, SC g (1 + i * 20) wr on id kind inh ev st A n cc X → X.cell? ⟨g, 1 + i * 20 + 1, none⟩ = some (.int .u16 id) := fun X hX => hX.2.2.2.1
      have u2 : ∀ X, SC g (1 + i * 20) wr on id kind inh ev st A n cc X → X.cell? ⟨g, 1 + i * 20 + 1 + 1, none⟩ = some (.int .u8 kind) := fun X hX => hX.2.2.2.2.1
      have u3 : ∀ X, SC g (1 + i * 20) wr on id kind inh ev st A n cc X → X.cell? ⟨g, 1 + i * 20 + 1 + 1 + 1, none⟩ = some (.int .i64 inh) := fun X hX => hX.2.2.2.2.2.1
      have u4 : ∀ X, SC g (1 + i * 20) wr on id kind inh ev st A n cc X → X.cell? ⟨g, 1 + i * 20 + 1 + 1 + 1 + 1, none⟩ = some (.int .i64 ev) := fun X hX => hX.2.2.2.2.2.2.1
      have u5 : ∀ X, SC g (1 + i * 20) wr on id kind inh ev st A n cc X → X.cell? ⟨g, 1 + i * 20 + 1 + 1 + 1 + 1 + 1, none⟩ = some (.int .u8 st) := fun X hX => hX.2.2.2.2.2.2.2.1
      have u6 : ∀ X, SC g (1 + i * 20) wr on id kind inh ev st A n cc X → X.cell? ⟨g, 1 + i * 20 + 6, none⟩ = some (.slice A n cc) := fun X hX => hX.2.2.2.2.2.2.2.2
      refine wp_region_held_drew (S := SC g (1 + i * 20) wr on id kind inh ev st A n cc) (by kernel_rfl) hS0 (fun hHeld => ?_)
      refine wpAnyH_take (i := 0) (oi := { dst := some 17, op := Op.move (Operand.tmp 3), type := _, pos := _, after := _, guard := none }) (v := ?_) rfl (by kernel_rfl) (by kernel_rfl) (by kernel_rfl) (fun _ _ _ h => h) (Or.inl ⟨rfl, ?_⟩) hHeld ?_
      rotate_left
      · intro w hSw
        try dsimp only at hSw
        go_simp
        try exact rfl
      try simp only [Act.put, List.setIfInBounds_toArray, List.set_cons_zero, List.set_cons_succ]
      refine wpAnyH_take (i := 1) (oi := { dst := some 18, op := Op.move (Operand.tmp 3), type := _, pos := _, after := _, guard := none }) (v := ?_) rfl (by kernel_rfl) (by kernel_rfl) (by kernel_rfl) (fun _ _ _ h => h) (Or.inl ⟨rfl, ?_⟩) hHeld ?_
      rotate_left
      · intro w hSw
        try dsimp only at hSw
        go_simp
        try exact rfl
      try simp only [Act.put, List.setIfInBounds_toArray, List.set_cons_zero, List.set_cons_succ]
      refine wpAnyH_take (i := 2) (oi := { dst := some 19, op := Op.nilCheck (Operand.tmp 18), type := _, pos := _, after := _, guard := none }) (v := ?_) rfl (by kernel_rfl) (by kernel_rfl) (by kernel_rfl) (fun _ _ _ h => h) (Or.inl ⟨rfl, ?_⟩) hHeld ?_
      rotate_left
      · intro w hSw
        try dsimp only at hSw
        go_simp
        try exact rfl
      try simp only [Act.put, List.setIfInBounds_toArray, List.set_cons_zero, List.set_cons_succ]
      refine wpAnyH_take (i := 3) (oi := { dst := some 20, op := Op.fieldAddr 165 (Operand.tmp 19) 0, type := _, pos := _, after := _, guard := none }) (v := ?_) rfl (by kernel_rfl) (by kernel_rfl) (by kernel_rfl) (fun _ _ _ h => h) (Or.inl ⟨rfl, ?_⟩) hHeld ?_
      rotate_left
      · intro w hSw
        try dsimp only at hSw
        go_simp
        try exact rfl
      try simp only [Act.put, List.setIfInBounds_toArray, List.set_cons_zero, List.set_cons_succ]
      refine wpAnyH_take (i := 4) (oi := { dst := some 21, op := Op.load 82 (Operand.tmp 20), type := _, pos := _, after := _, guard := none }) (v := ?_) rfl (by kernel_rfl) (by kernel_rfl) (by kernel_rfl) (fun _ _ _ h => h) (Or.inl ⟨rfl, ?_⟩) hHeld ?_
      rotate_left
      · intro w hSw
        try dsimp only at hSw
        go_simp
        try exact rfl
      try simp only [Act.put, List.setIfInBounds_toArray, List.set_cons_zero, List.set_cons_succ]
      refine wpAnyH_take (i := 5) (oi := { dst := some 22, op := Op.move (Operand.tmp 3), type := _, pos := _, after := _, guard := none }) (v := ?_) rfl (by kernel_rfl) (by kernel_rfl) (by kernel_rfl) (fun _ _ _ h => h) (Or.inl ⟨rfl, ?_⟩) hHeld ?_
      rotate_left
      · intro w hSw
        try dsimp only at hSw
        go_simp
        try exact rfl
      try simp only [Act.put, List.setIfInBounds_toArray, List.set_cons_zero, List.set_cons_succ]
      refine wpAnyH_take (i := 6) (oi := { dst := some 23, op := Op.nilCheck (Operand.tmp 22), type := _, pos := _, after := _, guard := none }) (v := ?_) rfl (by kernel_rfl) (by kernel_rfl) (by kernel_rfl) (fun _ _ _ h => h) (Or.inl ⟨rfl, ?_⟩) hHeld ?_
      rotate_left
      · intro w hSw
        try dsimp only at hSw
        go_simp
        try exact rfl
      try simp only [Act.put, List.setIfInBounds_toArray, List.set_cons_zero, List.set_cons_succ]
      refine wpAnyH_take (i := 7) (oi := { dst := some 24, op := Op.fieldAddr 165 (Operand.tmp 23) 1, type := _, pos := _, after := _, guard := none }) (v := ?_) rfl (by kernel_rfl) (by kernel_rfl) (by kernel_rfl) (fun _ _ _ h => h) (Or.inl ⟨rfl, ?_⟩) hHeld ?_
      rotate_left
      · intro w hSw
        try dsimp only at hSw
        go_simp
        try exact rfl
      try simp only [Act.put, List.setIfInBounds_toArray, List.set_cons_zero, List.set_cons_succ]
      refine wpAnyH_take (i := 8) (oi := { dst := some 25, op := Op.load 23 (Operand.tmp 24), type := _, pos := _, after := _, guard := none }) (v := ?_) rfl (by kernel_rfl) (by kernel_rfl) (by kernel_rfl) (fun _ _ _ h => h) (Or.inl ⟨rfl, ?_⟩) hHeld ?_
      rotate_left
      · intro w hSw
        try dsimp only at hSw
        go_simp
        try exact rfl
      try simp only [Act.put, List.setIfInBounds_toArray, List.set_cons_zero, List.set_cons_succ]
      refine wpAnyH_take (i := 9) (oi := { dst := some 26, op := Op.build 165 #[(0, Operand.tmp 21), (1, Operand.tmp 25)], type := _, pos := _, after := _, guard := none }) (v := ?_) rfl (by kernel_rfl) (by kernel_rfl) (by kernel_rfl) (fun _ _ _ h => h) (Or.inl ⟨rfl, ?_⟩) hHeld ?_
      rotate_left
      · intro w hSw
        try dsimp only at hSw
        go_simp
        try exact rfl
      try simp only [Act.put, List.setIfInBounds_toArray, List.set_cons_zero, List.set_cons_succ]
      refine wpAnyH_take (i := 10) (oi := { dst := some 27, op := Op.nilCheck (Operand.tmp 17), type := _, pos := _, after := _, guard := none }) (v := ?_) rfl (by kernel_rfl) (by kernel_rfl) (by kernel_rfl) (fun _ _ _ h => h) (Or.inl ⟨rfl, ?_⟩) hHeld ?_
      rotate_left
      · intro w hSw
        try dsimp only at hSw
        go_simp
        try exact rfl
      try simp only [Act.put, List.setIfInBounds_toArray, List.set_cons_zero, List.set_cons_succ]
      refine wpAnyH_ready (rs := [11]) (by kernel_rfl) (by simp) ?_
      refine AllReadyH.cons (o := { dst := none, op := Op.store 165 (Operand.tmp 27) (Operand.tmp 26), type := 0, pos := _, after := _, guard := none }) rfl (fun K hK => ?_) AllReadyH.nil
      rw [if_pos (by rfl)]
      refine wp_store_mid _ _ _ rfl _ _ (List.toArray _) rfl rfl ?_ ?_ (all_oneCell_toArray (one20 on id kind inh ev st A n cc)) ?_
      · exact hHeld.2.1
      · exact size_co
      simp only [Act.put, List.setIfInBounds_toArray, List.set_cons_zero, List.set_cons_succ, List.toList_toArray]
      refine hK.out _ _ hHeld.store (fun hHeld2 => ?_)
      clear hK K
      try simp only [Act.put, List.setIfInBounds_toArray, List.set_cons_zero, List.set_cons_succ]
      refine wpAnyH_done (by kernel_rfl) ?_ _
      have HP4 := Aside0.mk ((HPR2.out.below (below_drew (Below.refl _ _))).setCo hlt ⟨on, id, kind, inh, ev, st⟩ (os i).maps (.slice A n cc) (by have := (HPR2.out.below (below_drew (Below.refl _ _))).ms i hlt; rw [HOI.out, HVM.out.1, HVM.out.2] at this; exact this))
      rw [show (setCo ⟨on, id, kind, inh, ev, st⟩ (os i).maps).cells (.slice A n cc) = [.bool on, .int .u16 id, .int .u8 kind, .int .i64 inh, .int .i64 ev, .int .u8 st, .slice A n cc, .bool false, .int .i64 0, .bool false, .bool false, .int .u8 0, .int .u8 0, .int .u8 0, .int .u8 0, .int .u8 0, .int .u8 0, .int .u8 0, .int .u8 0, .int .i64 0] from rfl] at HP4
      have HF4 := Aside0.mk hHeld2.1
      clear hHeld hHeld2 u0 u1 u2 u3 u4 u5 u6 hS0
      generalize wr.drew.setCells g (1 + i * 20) [.bool on, .int .u16 id, .int .u8 kind, .int .i64 inh, .int .i64 ev, .int .u8 st, .slice A n cc, .bool false, .int .i64 0, .bool false, .bool false, .int .u8 0, .int .u8 0, .int .u8 0, .int .u8 0, .int .u8 0, .int .u8 0, .int .u8 0, .int .u8 0, .int .i64 0] = w4 at HP4 HF4 ⊢
      go_wp2
      go_roundw
      case rel =>
        refine ⟨i + 1, by omega, by go_num, ⟨upd os' i (setCo (os i).cm (os i).maps), fun k => ?_, ?_⟩, ⟨HF.out.trans HF4.out⟩⟩
        · by_cases e : k = i
          · subst e
            rw [upd_same, if_pos (Nat.lt_succ_self _)]
          · rw [upd_ne _ _ e, HOS.out k]
            by_cases hk : k < i
            · rw [if_pos hk, if_pos (by omega)]
            · rw [if_neg hk, if_neg (by omega)]
        · have h4 := HP4.out
          rw [← HVM.out.2, ← HVM.out.1, upd_id, ← HCM2.out] at h4
          exact h4
      case measure => simp [intOf]; omega
    · obtain rfl : i = 8 := by omega
      go_wp2
      go_end0
      exact ⟨rfl, ⟨os', fun k hk => by rw [hos k, if_pos hk], hpr⟩, HF.out⟩
end Go.Proofs.YtokebpeplopjhaaDoor.Mp
namespace Go.Proofs.YtokebpeplopjhaaDoor.Mp
open Go.RowKit Go.Shelf Go.Proofs.YtokebpeplopjhaaDoor.Rng Go.Proofs.YtokebpeplopjhaaDoorW.PrintWords Go.Proofs.YtokebpeplopjhaaDoorW.PrintMore Go.Proofs.YtokebpeplopjhaaDoorW.PrintLast

theorem str_inj {a b : List Int} (ha : Byt a) (hb : Byt b) : strOfNums a = strOfNums b ↔ a = b := by
  constructor
  · intro h
    have h1 : (strOfNums a).data.toList = (strOfNums b).data.toList := by rw [h]
    rw [strOfNums_data, strOfNums_data] at h1
    have key : ∀ l : List Int, Byt l → (l.map fun n => UInt8.ofNat n.toNat).map (fun u => ((u.toNat : Nat) : Int)) = l := by
      intro l hl
      rw [List.map_map]
      have h2 : l.map ((fun u : UInt8 => ((u.toNat : Nat) : Int)) ∘ fun n => UInt8.ofNat n.toNat) = l.map id := List.map_congr_left (fun x hx => by
        have hx := hl x hx
        show ((UInt8.ofNat x.toNat).toNat : Int) = x
        rw [UInt8.toNat_ofNat']
        omega)
      rw [h2, List.map_id]
    rw [← key a ha, ← key b hb, h1]
  · rintro rfl
    rfl
set_option maxRecDepth 100000 in
set_option maxHeartbeats 1000000 in
theorem bequal_any (A1 A2 : Option Addr) (n1 n2 c1 c2 : Nat) (a b : List Int) (w : World) (h1 : Rd w A1 a) (h2 : Rd w A2 b) (e1 : a.length = n1) (e2 : b.length = n2) (ha : Byt a) (hb : Byt b) :
    Calls Tryd.prog 128 #[.slice A1 n1 c1, .slice A2 n2 c2] w fun e w' => e = .returned (.bool (decide (a = b))) ∧ w' = w := by
  have v1 := str_at (c := c1) (Rd_C h1) w (Below.refl _ _)
  have v2 := str_at (c := c2) (Rd_C h2) w (Below.refl _ _)
  rw [e1] at v1
  rw [e2] at v2
  have hq : ((strOfNums a).toList == (strOfNums b).toList) = decide (a = b) := by
    by_cases h : a = b
    · rw [h]
      simp
    · rw [decide_eq_false h, beq_eq_false_iff_ne]
      intro e
      rw [ByteArray.toList_eq, ByteArray.toList_eq] at e
      exact h ((str_inj ha hb).1 (by
        generalize strOfNums a = s1 at e
        generalize strOfNums b = s2 at e
        cases s1
        cases s2
        congr
        exact Array.toList_inj.1 e))
  have HQ := Aside0.mk hq
  generalize strOfNums a = s1 at v1 hq HQ
  generalize strOfNums b = s2 at v2 hq HQ
  clear h1 h2 hq
  go_enter Tryd.func128, Tryd.ntmps128
  go_wp2
  go_ret
  refine ⟨?_, rfl⟩
  rw [← HQ.out]
  rfl
/-- What is packed, or nothing. -/
def bC (o : Option DD) (l : List Mp) : List Int := if checkC o l true = 0 then packC o l else []
theorem packC_byt (o : Option DD) (l : List Mp) : Byt (packC o l) := pkL_byt (Num.bits_stC o l) _
theorem bC_byt (o : Option DD) (l : List Mp) : Byt (bC o l) := by
  unfold bC
  split
  · exact packC_byt o l
  · intro x hx
    cases hx
theorem pk_any (B : Nat) (v : Value) (o : Option DD) (l : List Mp) (A : Option Addr) (c : Nat) (w : World) (h : DictV B w v o) (ht : Tbl w) (hm : MsAt w A l) (hl : l.length ≤ 1000000) (hmw : ∀ m ∈ l, m.Wf) (hg : ∀ d, o = some d → Good d) :
    Calls Tryd.prog 22 #[v, .slice A l.length c] w fun e w' => ∃ A' c', e = .returned (.tuple #[.slice A' (bC o l).length c', .int .u32 (checkC o l true)]) ∧ ArgV w' (.slice A' (bC o l).length c') (bC o l) ∧ (∀ k, (Value.slice A' (bC o l).length c').ownBlock = some k → w.heap.size ≤ k) ∧ Below w.heap.size w w' := by
  have hwf : ∀ i s, (findC o i s).1.Wf := by
    intro i s
    cases o with
    | none => exact zEn_wf
    | some d => exact (hg d rfl).find i s
  by_cases h0 : checkC o l true = 0
  · refine (Num.pack_any B v o l A c w h ht hm hl hmw hwf h0 (vals_two hg h0).1).mono ?_
    rintro e w' ⟨g, rfl, hgs, hr, hb⟩
    have hbc : bC o l = packC o l := if_pos h0
    have h64 := (check_0 h0).2.1
    have hsz : sizeC l ≤ 9 := by unfold sizeC; omega
    rw [hbc, packC_len, h0]
    refine ⟨some ⟨g, 0, none⟩, sizeC l, rfl, ⟨_, _, by rw [packC_len], ⟨rowB_rd hr (by rw [packC_len]; omega), packC_byt o l, by rw [packC_len]; exact Nat.le_refl _, by omega⟩, by rw [packC_len]; omega⟩, fun k hk => ?_, hb⟩
    have : some g = some k := hk
    injection this with this
    omega
  · refine (pack_no B v o l A c w h ht hm hl hmw hwf h0).mono ?_
    rintro e w' ⟨rfl, hb⟩
    have hbc : bC o l = [] := if_neg h0
    rw [hbc]
    exact ⟨none, 0, rfl, ArgV.nil w', (fun k hk => by cases hk), hb⟩
/-- Is there something else to be sent? -/
def chgC (o : Option DD) (x : Ob) : Bool := !x.sent || !decide (bC o x.maps = x.bts)
set_option maxRecDepth 100000 in
set_option maxHeartbeats 2000000 in
theorem pchanged_any (B : Nat) (g : Nat) (vd : Value) (o : Option DD) (os : Nat → Ob) (vm vb : Nat → Value) (goes : Bool) (now : Int) (i : Nat) (w : World) (h : PrAt w g vd os vm vb goes now) (hi : i < 8) (hd : DictV B w vd o) (ht : Tbl w) (hg : ∀ d, o = some d → Good d) (hmw : ∀ m ∈ (os i).maps, m.Wf) (hml : (os i).maps.length ≤ 1000) :
    Calls Tryd.prog 96 #[.pointer (some ⟨g, 0, none⟩), .pointer (some ⟨g, 1 + i * 13, none⟩)] w fun e w' => e = .returned (.bool (chgC o (os i))) ∧ Below w.heap.size w w' := by
  obtain ⟨Am, cm, hvm, hms, -⟩ := h.ms i hi
  obtain ⟨Ab, cb, hvb, hab, hbl, -⟩ := h.bs i hi
  have hob := h.ob i hi
  have y6 := hob 6 _ rfl
  have y7 := hob 7 _ rfl
  have y8 := hob 8 _ rfl
  rw [hvm] at y6
  rw [hvb] at y8
  have d0 := h.d0
  generalize os i = x at hms hab hbl y6 y7 y8 hmw hml hvm hvb ⊢
  have HPK := Aside0.mk fun (X : World) (hX : Below w.heap.size w X) => pk_any B vd o x.maps Am cm X (hd.below hX) (ht.below hX) (hms.below hX) (by omega) hmw hg
  have HAB := Aside0.mk hab
  obtain ⟨n, hn⟩ : ∃ n, x.maps.length = n := ⟨_, rfl⟩
  obtain ⟨nb, hnb⟩ : ∃ nb, x.bts.length = nb := ⟨_, rfl⟩
  obtain ⟨nk, hnk⟩ : ∃ nk, (bC o x.maps).length = nk := ⟨_, rfl⟩
  have HNB := Aside0.mk hnb
  have HNK := Aside0.mk hnk
  rw [hn, hnk] at HPK
  rw [hn] at y6
  rw [hnb] at y8
  have hbyt := Aside0.mk (bC_byt o x.maps)
  obtain ⟨r, hr⟩ : ∃ r, chgC o x = r := ⟨_, rfl⟩
  rw [hr]
  unfold chgC at hr
  generalize checkC o x.maps true = code at HPK
  generalize bC o x.maps = bc at HPK hbyt HNK hr
  have HR := Aside0.mk hr
  clear h hd ht hg hmw hms hab hob hvm hvb hn hnb hnk hr hml hbl
  have u0 : ∀ X, Below w.heap.size w X → _ := fun X hX => pw_cell_below hX d0
  have u6 : ∀ X, Below w.heap.size w X → _ := fun X hX => pw_cell_below hX y6
  have hS0 : Below w.heap.size w w.drew := below_drew (Below.refl _ _)
  have Y7 := Aside0.mk y7
  have Y8 := Aside0.mk y8
  clear d0 y6 y7 y8
  go_enter Tryd.func96, Tryd.ntmps96
  go_wp2
  go_region_held3 (fun X => Below w.heap.size w X) (first | assumption | exact hS0 | exact below_step (by assumption) (by assumption) | exact below_drew (by assumption))
    ((go_at_call 22; go_loud (refine (HPK.out _ (by assumption)).mono ?_; rintro e w1 ⟨A1, c1, rfl, ha1, -, hb1⟩; have hs1 := below_step (by assumption) hb1; have HS1 := Aside0.mk hs1; have HA1 := Aside0.mk ha1; clear ha1 hb1)))
  have y7 := pw_cell_below HS1.out Y7.out
  have y8 := pw_cell_below HS1.out Y8.out
  clear u0 u6 hS0 hs1
  obtain ⟨A1', c1', e1, h1, -⟩ := HA1.out
  have hR1 := Aside0.mk h1
  have hA1 := Aside0.mk (show A1' = A1 by injection e1 with e1; exact e1.symm)
  clear e1 h1
  obtain ⟨sent, hsent⟩ : ∃ sent, x.sent = sent := ⟨_, rfl⟩
  have hr := HR.out
  rw [hsent] at y7 hr
  clear hsent Y7 Y8
  cases sent with
  | false =>
    have hrt : r = true := by rw [← hr]; rfl
    subst hrt
    clear hr
    go_wp2
    go_ret
    exact ⟨rfl, HS1.out⟩
  | true =>
    have hrt : (!decide (bc = x.bts)) = r := by rw [← hr]; simp
    have HRT := Aside0.mk hrt
    clear hr hrt
    go_wp2_with (go_at_call 128; go_loud (refine (bequal_any A1 Ab nk nb c1 cb bc x.bts w1 (hA1.out ▸ hR1.out.rd) ((HAB.out.below HS1.out).rd) HNK.out HNB.out hbyt.out HAB.out.byt).mono ?_; rintro e w2 ⟨rfl, hw⟩; have hw := hw.symm; subst hw))
    go_ret
    exact ⟨by rw [← HRT.out]; rfl, HS1.out⟩
end Go.Proofs.YtokebpeplopjhaaDoor.Mp
