/- Consumers: the closure of Hear, of an object that is written at once. Rows of what a consumer tells: two cells each. Consumers: each, of any closure. Consumers: each, of any closure, walked. -/
import Derived.Test.YtokebpeplopjhaaDoorY17
import Derived.Test.YtokebpeplopjhaaDoorY18
import Derived.Deep.RegionHeld3
import Derived.Test.YtokebpeplopjhaaDoorY13
import Derived.Deep.DeepCutAuto
namespace Go.Proofs.YtokebpeplopjhaaDoor.Mp
open Go.RowKit Go.Shelf Go.Proofs.YtokebpeplopjhaaDoor.Rng Go.Proofs.YtokebpeplopjhaaDoorW.PrintWords Go.Proofs.YtokebpeplopjhaaDoorW.PrintMore Go.Proofs.YtokebpeplopjhaaDoorW.PrintLast

theorem CnAt.frM {M : Nat → Prop} {w w' : World} {g : Nat} {vd : Value} {os : Nat → Co} {vm : Nat → Value} {goes : Bool} (h : CnAt w g vd os vm goes) (hf : Fr M w w') (hM : NoByte w M) (hg : ¬ M g) : CnAt w' g vd os vm goes :=
  ⟨hf.cell h.d0 hg, fun i hi j u hu => hf.cell (h.ob i hi j u hu) hg, hf.cell h.gs hg, fun k => (World.frozen?_of_block (a := ⟨g, k, none⟩) (hf.block g h.lt hg)).trans (h.fz k), fun i hi => (h.ms i hi).frM hf hM⟩
/-- An object that has heard a frame. -/
def hearO (x : Co) (now : Int) : Co := { x with heard := true, at_ := now, late := false }
theorem CnAt.hear {w : World} {g : Nat} {vd : Value} {os : Nat → Co} {vm : Nat → Value} {goes : Bool} (h : CnAt w g vd os vm goes) {i : Nat} (hi : i < 8) (now : Int) :
    CnAt (w.setCells g (1 + i * 20 + 7) [.bool true, .int .i64 now, .bool false]) g vd (upd os i (hearO (os i) now)) vm goes := by
  have h1 := h.store hi (t := 7) [.bool true, .int .i64 now, .bool false] (by show 7 + 3 ≤ 20; omega) (hearO (os i) now) (vm i) (fun j u hu => ?_) (h.ms i hi)
  · rw [upd_id] at h1
    exact h1
  · have hj : j < 20 := (List.getElem?_eq_some_iff.1 hu).1
    match j, hj, hu with
    | 0, _, hu => exact .inr ⟨.inl (by omega), hu⟩
    | 1, _, hu => exact .inr ⟨.inl (by omega), hu⟩
    | 2, _, hu => exact .inr ⟨.inl (by omega), hu⟩
    | 3, _, hu => exact .inr ⟨.inl (by omega), hu⟩
    | 4, _, hu => exact .inr ⟨.inl (by omega), hu⟩
    | 5, _, hu => exact .inr ⟨.inl (by omega), hu⟩
    | 6, _, hu => exact .inr ⟨.inl (by omega), hu⟩
    | 7, _, hu => exact .inl ⟨by omega, by simp, hu⟩
    | 8, _, hu => exact .inl ⟨by omega, by simp, hu⟩
    | 9, _, hu => exact .inl ⟨by omega, by simp, hu⟩
    | 10, _, hu => exact .inr ⟨.inr (by simp), hu⟩
    | 11, _, hu => exact .inr ⟨.inr (by simp), hu⟩
    | 12, _, hu => exact .inr ⟨.inr (by simp), hu⟩
    | 13, _, hu => exact .inr ⟨.inr (by simp), hu⟩
    | 14, _, hu => exact .inr ⟨.inr (by simp), hu⟩
    | 15, _, hu => exact .inr ⟨.inr (by simp), hu⟩
    | 16, _, hu => exact .inr ⟨.inr (by simp), hu⟩
    | 17, _, hu => exact .inr ⟨.inr (by simp), hu⟩
    | 18, _, hu => exact .inr ⟨.inr (by simp), hu⟩
    | 19, _, hu => exact .inr ⟨.inr (by simp), hu⟩
theorem keep_hear {w : World} {g o : Nat} {a1 a3 b1 b3 : Bool} {a2 b2 : Int} (h1 : w.cell? ⟨g, o + 7, none⟩ = some (.bool a1)) (h2 : w.cell? ⟨g, o + 8, none⟩ = some (.int .i64 a2)) (h3 : w.cell? ⟨g, o + 9, none⟩ = some (.bool a3)) : Keep8 w (((w.setCell ⟨g, o + 7, none⟩ (.bool b1)).setCell ⟨g, o + 8, none⟩ (.int .i64 b2)).setCell ⟨g, o + 9, none⟩ (.bool b3)) := by
  have ne : ∀ {w : World} {x y : Nat} {v : Value}, x ≠ y → (w.setCell ⟨g, x, none⟩ v).cell? ⟨g, y, none⟩ = w.cell? ⟨g, y, none⟩ := fun h => World.cell?_setCell_other _ _ _ _ (by intro e; injection e with _ e _; exact h e)
  refine (keep_set h1 (fun y => by simp)).trans ((keep_set (u := .int .i64 a2) ?_ (fun y => by simp)).trans (keep_set (u := .bool a3) ?_ (fun y => by simp)))
  · rw [ne (by omega)]; exact h2
  · rw [ne (by omega), ne (by omega)]; exact h3
/-- Size is walked; the rest of the closure is left (region 5: three stores in a drawn order; region 7: Write). -/
def HearYes (B g gd bi bs : Nat) (d : DD) (os : Nat → Co) (vm : Nat → Value) (goes : Bool) (i : Nat) (now : Int) (zs : List Int) (w : World) (e : Ending) (w' : World) : Prop :=
  e = .returned (.tuple #[.int .u32 (unpackC (some d) (os i).maps zs).2, .bool true]) ∧ CnAt w' g (.pointer (some ⟨gd, 0, none⟩)) (upd os i (hearO (os i) now)) vm goes ∧ DictB B w' gd bi bs (writesC d (unpackC (some d) (os i).maps zs).1) ∧ Fr (fun k => k = g ∨ k = gd ∨ k = bi) w w'
set_option maxRecDepth 100000 in
set_option maxHeartbeats 2000000 in
theorem chear_yes (B g gd bi bs Bf Bn Bc Bo : Nat) (d : DD) (os : Nat → Co) (vm : Nat → Value) (goes : Bool) (i : Nat) (now id : Int) (n : Nat) (x0 x1 x2 x3 x4 x5 x6 x7 : Int) (rm : Bool) (w : World) (h : CnAt w g (.pointer (some ⟨gd, 0, none⟩)) os vm goes) (hi : i < 8) (hD : DictB B w gd bi bs d) (hne : gd ≠ g ∧ bi ≠ g ∧ bs ≠ g) (hG : Good d) (ht : TblB B w) (hBg : B ≤ g)
    (hf : w.heap[Bf]? = some (.cells #[.int .u16 id, .int .i64 n, .int .u8 x0, .int .u8 x1, .int .u8 x2, .int .u8 x3, .int .u8 x4, .int .u8 x5, .int .u8 x6, .int .u8 x7, .bool rm] 104 (0, 0))) (hn8 : n ≤ 8) (hfg : Bf ≠ g) (hfd : ¬ (Bf = gd ∨ Bf = bi)) (hcd : ¬ (Bc = gd ∨ Bc = bi)) (hxs : Byt [x0, x1, x2, x3, x4, x5, x6, x7]) (hn : w.cell? ⟨Bn, 0, none⟩ = some (.int .i64 now)) (hng : Bn ≠ g) (hc : w.cell? ⟨Bc, 0, none⟩ = some (.pointer (some ⟨g, 0, none⟩))) (hcg : Bc ≠ g)
    (hid : (os i).cm.id = id) (hk : 254 ≤ (os i).cm.kind) (hsz : sizeC (os i).maps ≤ n) (hsm : sumC (os i).maps ≤ 64) (hb0 : ∀ m ∈ (os i).maps, 0 ≤ m.bits) (hmw : ∀ m ∈ (os i).maps, m.Wf) (hml : (os i).maps.length ≤ 64) :
    Calls Tryd.prog 104 #[.pointer (some ⟨g, 1 + i * 20, none⟩), .pointer (some ⟨Bf, 0, none⟩), .pointer (some ⟨Bn, 0, none⟩), .pointer (some ⟨Bc, 0, none⟩), .pointer (some ⟨Bo, 0, none⟩)] w (HearYes B g gd bi bs d os vm goes i now (([x0, x1, x2, x3, x4, x5, x6, x7] : List Int).take n) w) := by
  have HP := Aside0.mk h
  have HD := Aside0.mk hD
  have HT := Aside0.mk ht
  have HF := Aside0.mk hf
  have hob := h.ob i hi
  obtain ⟨A, cc, hvm, hma, hmn⟩ := h.ms i hi
  obtain ⟨nm, hnm⟩ : ∃ nm, (os i).maps.length = nm := ⟨_, rfl⟩
  have y1 := hob 1 _ rfl
  have y6 := hob 6 _ rfl
  rw [hid] at y1
  rw [hvm, hnm] at y6
  have q0 := Go.Proofs.YtokebpeplopjhaaDoorW.PrintWords.blk_cell hf 0
  have q1 := Go.Proofs.YtokebpeplopjhaaDoorW.PrintWords.blk_cell hf 1
  have HOB := Aside0.mk hob
  have HMA := Aside0.mk hma
  have HSM := Aside0.mk (And.intro hsm (And.intro hb0 (And.intro hmw hml)))
  have HNM := Aside0.mk (And.intro hvm hnm)
  have HSZ := Aside0.mk fun (X : World) (hX : Below w.heap.size w X) => msize_any (os i).maps A cc X (hma.below hX) (by omega) hb0 hsm
  rw [hnm] at HSZ
  have hlt : ¬ ((n : Int) < (sizeC (os i).maps : Nat)) := by omega
  generalize hsc : sizeC (os i).maps = sc at HSZ hlt hsz
  have HNC := Aside0.mk (And.intro hn hc)
  have HKD := Aside0.mk hk
  have hS0 : Below w.heap.size w w.drew := below_drew (Below.refl _ _)
  have u0 : ∀ X, Below w.heap.size w X → _ := fun X hX => pw_cell_below hX q0
  have u1 : ∀ X, Below w.heap.size w X → _ := fun X hX => pw_cell_below hX q1
  have u2 : ∀ X, Below w.heap.size w X → _ := fun X hX => pw_cell_below hX y1
  have u6 : ∀ X, Below w.heap.size w X → _ := fun X hX => pw_cell_below hX y6
  clear h hD ht hf hob hma hmn hvm hnm hsm hb0 hmw hml hn hc hk y1 y6 q0 q1
  go_enter Tryd.func104, Tryd.ntmps104
  go_wp2
  go_region_held3 (fun X => Below w.heap.size w X) (first | assumption | exact hS0) (fail)
  go_wp2
  clear u2
  go_region_held3 (fun X => Below w.heap.size w X) (first | assumption | exact below_drew (by assumption) | exact below_step (by assumption) (by assumption))
    ((go_at_call 23; go_loud (refine (HSZ.out _ (by assumption)).mono ?_; rintro e w2 ⟨rfl, hb2⟩; have hs2 := below_step (by assumption) hb2; have HS2 := Aside0.mk hs2; clear hb2)))
  clear u0 u1 u6 hS0
  go_wp2
  have hP2 := HP.out.below HS2.out
  have hS2 : Fr (fun k => k = g) w2 w2.drew ∧ w2.drew.there g (1 + i * 20 + 7) 3 := ⟨Fr.of_below (below_drew (Below.refl _ _)), fun j hj => (by have h := there_below (hP2.there hi) (below_drew (Below.refl _ _)) (7 + j) (by omega); rwa [← Nat.add_assoc] at h)⟩
  have u3 : ∀ X, (Fr (fun k => k = g) w2 X ∧ X.there g (1 + i * 20 + 7) 3) → X.cell? ⟨Bn, 0, none⟩ = some (.int .i64 now) := fun X hX => hX.1.cell (pw_cell_below HS2.out HNC.out.1) hng
  have hPD := hP2.below (below_drew (Below.refl _ _))
  have hBD : Below w2.heap.size w2 w2.drew := below_drew (Below.refl _ _)
  refine wp_region_held_drew (S := (fun X => Fr (fun k => k = g) w2 X ∧ X.there g (1 + i * 20 + 7) 3)) (by kernel_rfl) hS2 (fun hHeld => ?_)
  generalize w2.drew = wd at hHeld hPD hBD ⊢
  have HPD := Aside0.mk hPD
  have HBD := Aside0.mk hBD
  clear hS2 hP2 hPD hBD
  refine wpAnyH_take (i := 0) (oi := { dst := some 26, op := Op.move (Operand.tmp 0), type := _, pos := _, after := _, guard := none }) (v := ?_) rfl (by kernel_rfl) (by kernel_rfl) (by kernel_rfl) (fun _ _ _ h => h) (Or.inl ⟨rfl, ?_⟩) hHeld ?_
  rotate_left
  · intro w hSw
    try dsimp only at hSw
    go_simp
    try exact rfl
  try simp only [Act.put, List.setIfInBounds_toArray, List.set_cons_zero, List.set_cons_succ]
  refine wpAnyH_take (i := 1) (oi := { dst := some 27, op := Op.move (Operand.tmp 0), type := _, pos := _, after := _, guard := none }) (v := ?_) rfl (by kernel_rfl) (by kernel_rfl) (by kernel_rfl) (fun _ _ _ h => h) (Or.inl ⟨rfl, ?_⟩) hHeld ?_
  rotate_left
  · intro w hSw
    try dsimp only at hSw
    go_simp
    try exact rfl
  try simp only [Act.put, List.setIfInBounds_toArray, List.set_cons_zero, List.set_cons_succ]
  refine wpAnyH_take (i := 2) (oi := { dst := some 28, op := Op.move (Operand.tmp 0), type := _, pos := _, after := _, guard := none }) (v := ?_) rfl (by kernel_rfl) (by kernel_rfl) (by kernel_rfl) (fun _ _ _ h => h) (Or.inl ⟨rfl, ?_⟩) hHeld ?_
  rotate_left
  · intro w hSw
    try dsimp only at hSw
    go_simp
    try exact rfl
  try simp only [Act.put, List.setIfInBounds_toArray, List.set_cons_zero, List.set_cons_succ]
  refine wpAnyH_take (i := 3) (oi := { dst := some 29, op := Op.load 2 (Operand.tmp 2), type := _, pos := _, after := _, guard := none }) (v := ?_) rfl (by kernel_rfl) (by kernel_rfl) (by kernel_rfl) (fun _ _ _ h => h) (Or.inl ⟨rfl, ?_⟩) hHeld ?_
  rotate_left
  · intro w hSw
    try dsimp only at hSw
    go_simp
    try exact rfl
  try simp only [Act.put, List.setIfInBounds_toArray, List.set_cons_zero, List.set_cons_succ]
  refine wpAnyH_take (i := 4) (oi := { dst := some 30, op := Op.nilCheck (Operand.tmp 26), type := _, pos := _, after := _, guard := none }) (v := ?_) rfl (by kernel_rfl) (by kernel_rfl) (by kernel_rfl) (fun _ _ _ h => h) (Or.inl ⟨rfl, ?_⟩) hHeld ?_
  rotate_left
  · intro w hSw
    try dsimp only at hSw
    go_simp
    try exact rfl
  try simp only [Act.put, List.setIfInBounds_toArray, List.set_cons_zero, List.set_cons_succ]
  refine wpAnyH_take (i := 5) (oi := { dst := some 31, op := Op.fieldAddr 165 (Operand.tmp 30) 2, type := _, pos := _, after := _, guard := none }) (v := ?_) rfl (by kernel_rfl) (by kernel_rfl) (by kernel_rfl) (fun _ _ _ h => h) (Or.inl ⟨rfl, ?_⟩) hHeld ?_
  rotate_left
  · intro w hSw
    try dsimp only at hSw
    go_simp
    try exact rfl
  try simp only [Act.put, List.setIfInBounds_toArray, List.set_cons_zero, List.set_cons_succ]
  obtain ⟨z0, e0⟩ := Option.isSome_iff_exists.1 (hHeld.2 0 (by omega)).1
  have e0' : wd.cell? ⟨g, 1 + i * 20 + 7, none⟩ = some z0 := e0
  have g0 : wd.frozen? ⟨g, 1 + i * 20 + 7, none⟩ = false := (hHeld.2 0 (by omega)).2
  refine wpAnyH_ready (rs := [6]) (by kernel_rfl) (by simp) ?_
  refine AllReadyH.cons (o := { dst := none, op := Op.store 4 (Operand.tmp 31) (Operand.const (Value.bool true)), type := _, pos := _, after := _, guard := none }) rfl (fun K hK => ?_) AllReadyH.nil
  go_simp
  refine hK.out _ _ (⟨hHeld.1.trans (Fr.setCell (M := fun k => k = g) _ _ _ (.inl rfl)), World.there_setCells hHeld.2 g (1 + i * 20 + 7) [Value.bool true]⟩) (fun hHeld1 => ?_)
  clear hK K
  try simp only [Act.put, List.setIfInBounds_toArray, List.set_cons_zero, List.set_cons_succ]
  refine wpAnyH_take (i := 7) (oi := { dst := some 32, op := Op.nilCheck (Operand.tmp 27), type := _, pos := _, after := _, guard := none }) (v := ?_) rfl (by kernel_rfl) (by kernel_rfl) (by kernel_rfl) (fun _ _ _ h => h) (Or.inl ⟨rfl, ?_⟩) hHeld1 ?_
  rotate_left
  · intro w hSw
    try dsimp only at hSw
    go_simp
    try exact rfl
  try simp only [Act.put, List.setIfInBounds_toArray, List.set_cons_zero, List.set_cons_succ]
  refine wpAnyH_take (i := 8) (oi := { dst := some 33, op := Op.fieldAddr 165 (Operand.tmp 32) 3, type := _, pos := _, after := _, guard := none }) (v := ?_) rfl (by kernel_rfl) (by kernel_rfl) (by kernel_rfl) (fun _ _ _ h => h) (Or.inl ⟨rfl, ?_⟩) hHeld1 ?_
  rotate_left
  · intro w hSw
    try dsimp only at hSw
    go_simp
    try exact rfl
  try simp only [Act.put, List.setIfInBounds_toArray, List.set_cons_zero, List.set_cons_succ]
  obtain ⟨z1, e1⟩ := Option.isSome_iff_exists.1 (hHeld1.2 1 (by omega)).1
  have e1' : (wd.setCell ⟨g, 1 + i * 20 + 7, none⟩ (.bool true)).cell? ⟨g, 1 + i * 20 + 8, none⟩ = some z1 := e1
  have g1 : (wd.setCell ⟨g, 1 + i * 20 + 7, none⟩ (.bool true)).frozen? ⟨g, 1 + i * 20 + 8, none⟩ = false := (hHeld1.2 1 (by omega)).2
  refine wpAnyH_ready (rs := [9]) (by kernel_rfl) (by simp) ?_
  refine AllReadyH.cons (o := { dst := none, op := Op.store 2 (Operand.tmp 33) (Operand.tmp 29), type := _, pos := _, after := _, guard := none }) rfl (fun K hK => ?_) AllReadyH.nil
  go_simp
  refine hK.out _ _ (⟨hHeld1.1.trans (Fr.setCell (M := fun k => k = g) _ _ _ (.inl rfl)), World.there_setCells hHeld1.2 g (1 + i * 20 + 8) [Value.int .i64 now]⟩) (fun hHeld2 => ?_)
  clear hK K
  try simp only [Act.put, List.setIfInBounds_toArray, List.set_cons_zero, List.set_cons_succ]
  refine wpAnyH_take (i := 10) (oi := { dst := some 34, op := Op.nilCheck (Operand.tmp 28), type := _, pos := _, after := _, guard := none }) (v := ?_) rfl (by kernel_rfl) (by kernel_rfl) (by kernel_rfl) (fun _ _ _ h => h) (Or.inl ⟨rfl, ?_⟩) hHeld2 ?_
  rotate_left
  · intro w hSw
    try dsimp only at hSw
    go_simp
    try exact rfl
  try simp only [Act.put, List.setIfInBounds_toArray, List.set_cons_zero, List.set_cons_succ]
  refine wpAnyH_take (i := 11) (oi := { dst := some 35, op := Op.fieldAddr 165 (Operand.tmp 34) 4, type := _, pos := _, after := _, guard := none }) (v := ?_) rfl (by kernel_rfl) (by kernel_rfl) (by kernel_rfl) (fun _ _ _ h => h) (Or.inl ⟨rfl, ?_⟩) hHeld2 ?_
  rotate_left
  · intro w hSw
    try dsimp only at hSw
    go_simp
    try exact rfl
  try simp only [Act.put, List.setIfInBounds_toArray, List.set_cons_zero, List.set_cons_succ]
  obtain ⟨z2, e2⟩ := Option.isSome_iff_exists.1 (hHeld2.2 2 (by omega)).1
  have e2' : ((wd.setCell ⟨g, 1 + i * 20 + 7, none⟩ (.bool true)).setCell ⟨g, 1 + i * 20 + 8, none⟩ (.int .i64 now)).cell? ⟨g, 1 + i * 20 + 9, none⟩ = some z2 := e2
  have g2 : ((wd.setCell ⟨g, 1 + i * 20 + 7, none⟩ (.bool true)).setCell ⟨g, 1 + i * 20 + 8, none⟩ (.int .i64 now)).frozen? ⟨g, 1 + i * 20 + 9, none⟩ = false := (hHeld2.2 2 (by omega)).2
  refine wpAnyH_ready (rs := [12]) (by kernel_rfl) (by simp) ?_
  refine AllReadyH.cons (o := { dst := none, op := Op.store 4 (Operand.tmp 35) (Operand.const (Value.bool false)), type := _, pos := _, after := _, guard := none }) rfl (fun K hK => ?_) AllReadyH.nil
  go_simp
  refine hK.out _ _ (⟨hHeld2.1.trans (Fr.setCell (M := fun k => k = g) _ _ _ (.inl rfl)), World.there_setCells hHeld2.2 g (1 + i * 20 + 9) [Value.bool false]⟩) (fun hHeld3 => ?_)
  clear hK K
  try simp only [Act.put, List.setIfInBounds_toArray, List.set_cons_zero, List.set_cons_succ]
  refine wpAnyH_done (by kernel_rfl) ?_ _
  have HP3 := Aside0.mk (show CnAt (((wd.setCell ⟨g, 1 + i * 20 + 7, none⟩ (.bool true)).setCell ⟨g, 1 + i * 20 + 8, none⟩ (.int .i64 now)).setCell ⟨g, 1 + i * 20 + 9, none⟩ (.bool false)) g (.pointer (some ⟨gd, 0, none⟩)) (upd os i (hearO (os i) now)) vm goes from HPD.out.hear hi now)
  have HF3 := Aside0.mk hHeld3.1
  have HKP := Aside0.mk ((Keep8.below HS2.out).trans ((Keep8.below HBD.out).trans (show Keep8 wd (((wd.setCell ⟨g, 1 + i * 20 + 7, none⟩ (.bool true)).setCell ⟨g, 1 + i * 20 + 8, none⟩ (.int .i64 now)).setCell ⟨g, 1 + i * 20 + 9, none⟩ (.bool false)) from keep_hear (HPD.out.ob i hi 7 _ rfl) (HPD.out.ob i hi 8 _ rfl) (HPD.out.ob i hi 9 _ rfl))))
  clear hHeld hHeld1 hHeld2 hHeld3 e0 e0' g0 e1 e1' g1 e2 e2' g2 u3
  generalize (((wd.setCell ⟨g, 1 + i * 20 + 7, none⟩ (.bool true)).setCell ⟨g, 1 + i * 20 + 8, none⟩ (.int .i64 now)).setCell ⟨g, 1 + i * 20 + 9, none⟩ (.bool false)) = w3 at HP3 HF3 HKP ⊢
  have hob3 := HP3.out.ob i hi
  rw [upd_same] at hob3
  have k2 : w3.cell? ⟨g, 1 + i * 20 + 2, none⟩ = some (.int .u8 (os i).cm.kind) := hob3 2 _ rfl
  have HK := HKD.out
  have k6 := hob3 6 _ rfl
  rw [HNM.out.1, HNM.out.2] at k6
  have HFB := Aside0.mk ((Fr.of_below HS2.out).trans HF3.out)
  have HBF := Aside0.mk (HFB.out.blk HF.out hfg)
  have k1 := Go.Proofs.YtokebpeplopjhaaDoorW.PrintWords.blk_cell HBF.out 1
  have kc := HFB.out.cell HNC.out.2 hcg
  have k0 := HP3.out.d0
  generalize (os i).cm.kind = kd at k2 HK
  clear hob3
  go_wp2
  have hBD3 : Below w3.heap.size w3 w3.drew := below_drew (Below.refl _ _)
  have v0 : ∀ X, Fr (fun k => k = gd ∨ k = bi) w3 X → X.cell? ⟨g, 0, none⟩ = some (.pointer (some ⟨gd, 0, none⟩)) := fun X hX => hX.cell k0 (by intro e; rcases e with e | e; exact hne.1 e.symm; exact hne.2.1 e.symm)
  have v1 : ∀ X, Fr (fun k => k = gd ∨ k = bi) w3 X → X.cell? ⟨Bf, 1, none⟩ = some (.int .i64 n) := fun X hX => hX.cell k1 hfd
  have v6 : ∀ X, Fr (fun k => k = gd ∨ k = bi) w3 X → X.cell? ⟨g, 1 + i * 20 + 6, none⟩ = some (.slice A nm cc) := fun X hX => hX.cell k6 (by intro e; rcases e with e | e; exact hne.1 e.symm; exact hne.2.1 e.symm)
  have vc : ∀ X, Fr (fun k => k = gd ∨ k = bi) w3 X → X.cell? ⟨Bc, 0, none⟩ = some (.pointer (some ⟨g, 0, none⟩)) := fun X hX => hX.cell kc hcd
  clear k0 k1 k2 k6 kc
  have hn80 : (n : Int) ≤ 8 := by omega
  refine wp_region_held_drew (S := (fun X => Fr (fun k => k = gd ∨ k = bi) w3 X)) (by kernel_rfl) (Fr.of_below hBD3) (fun hHeld => ?_)
  refine wpAnyH_take (i := 0) (oi := { dst := some 42, op := _, type := _, pos := _, after := _, guard := none }) (v := ?_) rfl (by kernel_rfl) (by kernel_rfl) (by kernel_rfl) (fun _ _ _ h => h) (Or.inl ⟨rfl, ?_⟩) hHeld ?_
  rotate_left
  · intro w hSw
    try dsimp only at hSw
    go_simp
    try exact rfl
  try simp only [Act.put, List.setIfInBounds_toArray, List.set_cons_zero, List.set_cons_succ]
  refine wpAnyH_take (i := 1) (oi := { dst := some 43, op := _, type := _, pos := _, after := _, guard := none }) (v := ?_) rfl (by kernel_rfl) (by kernel_rfl) (by kernel_rfl) (fun _ _ _ h => h) (Or.inl ⟨rfl, ?_⟩) hHeld ?_
  rotate_left
  · intro w hSw
    try dsimp only at hSw
    go_simp
    try exact rfl
  try simp only [Act.put, List.setIfInBounds_toArray, List.set_cons_zero, List.set_cons_succ]
  refine wpAnyH_take (i := 2) (oi := { dst := some 44, op := _, type := _, pos := _, after := _, guard := none }) (v := ?_) rfl (by kernel_rfl) (by kernel_rfl) (by kernel_rfl) (fun _ _ _ h => h) (Or.inl ⟨rfl, ?_⟩) hHeld ?_
  rotate_left
  · intro w hSw
    try dsimp only at hSw
    go_simp
    try exact rfl
  try simp only [Act.put, List.setIfInBounds_toArray, List.set_cons_zero, List.set_cons_succ]
  refine wpAnyH_take (i := 3) (oi := { dst := some 45, op := _, type := _, pos := _, after := _, guard := none }) (v := ?_) rfl (by kernel_rfl) (by kernel_rfl) (by kernel_rfl) (fun _ _ _ h => h) (Or.inl ⟨rfl, ?_⟩) hHeld ?_
  rotate_left
  · intro w hSw
    try dsimp only at hSw
    go_simp
    try exact rfl
  try simp only [Act.put, List.setIfInBounds_toArray, List.set_cons_zero, List.set_cons_succ]
  refine wpAnyH_take (i := 4) (oi := { dst := some 46, op := _, type := _, pos := _, after := _, guard := none }) (v := ?_) rfl (by kernel_rfl) (by kernel_rfl) (by kernel_rfl) (fun _ _ _ h => h) (Or.inl ⟨rfl, ?_⟩) hHeld ?_
  rotate_left
  · intro w hSw
    try dsimp only at hSw
    go_simp
    try exact rfl
  try simp only [Act.put, List.setIfInBounds_toArray, List.set_cons_zero, List.set_cons_succ]
  refine wpAnyH_take (i := 5) (oi := { dst := some 47, op := _, type := _, pos := _, after := _, guard := none }) (v := ?_) rfl (by kernel_rfl) (by kernel_rfl) (by kernel_rfl) (fun _ _ _ h => h) (Or.inl ⟨rfl, ?_⟩) hHeld ?_
  rotate_left
  · intro w hSw
    try dsimp only at hSw
    go_simp
    try exact rfl
  try simp only [Act.put, List.setIfInBounds_toArray, List.set_cons_zero, List.set_cons_succ]
  refine wpAnyH_take (i := 6) (oi := { dst := some 48, op := _, type := _, pos := _, after := _, guard := none }) (v := ?_) rfl (by kernel_rfl) (by kernel_rfl) (by kernel_rfl) (fun _ _ _ h => h) (Or.inl ⟨rfl, ?_⟩) hHeld ?_
  rotate_left
  · intro w hSw
    try dsimp only at hSw
    go_simp
    try exact rfl
  try simp only [Act.put, List.setIfInBounds_toArray, List.set_cons_zero, List.set_cons_succ]
  refine wpAnyH_take (i := 7) (oi := { dst := some 49, op := _, type := _, pos := _, after := _, guard := none }) (v := ?_) rfl (by kernel_rfl) (by kernel_rfl) (by kernel_rfl) (fun _ _ _ h => h) (Or.inl ⟨rfl, ?_⟩) hHeld ?_
  rotate_left
  · intro w hSw
    try dsimp only at hSw
    go_simp
    try exact rfl
  try simp only [Act.put, List.setIfInBounds_toArray, List.set_cons_zero, List.set_cons_succ]
  refine wpAnyH_take (i := 8) (oi := { dst := some 50, op := _, type := _, pos := _, after := _, guard := none }) (v := ?_) rfl (by kernel_rfl) (by kernel_rfl) (by kernel_rfl) (fun _ _ _ h => h) (Or.inl ⟨rfl, ?_⟩) hHeld ?_
  rotate_left
  · intro w hSw
    try dsimp only at hSw
    go_simp
    try exact rfl
  try simp only [Act.put, List.setIfInBounds_toArray, List.set_cons_zero, List.set_cons_succ]
  refine wpAnyH_take (i := 9) (oi := { dst := some 51, op := _, type := _, pos := _, after := _, guard := none }) (v := ?_) rfl (by kernel_rfl) (by kernel_rfl) (by kernel_rfl) (fun _ _ _ h => h) (Or.inl ⟨rfl, ?_⟩) hHeld ?_
  rotate_left
  · intro w hSw
    try dsimp only at hSw
    go_simp
    try exact rfl
  try simp only [Act.put, List.setIfInBounds_toArray, List.set_cons_zero, List.set_cons_succ]
  refine wpAnyH_take (i := 10) (oi := { dst := some 52, op := _, type := _, pos := _, after := _, guard := none }) (v := ?_) rfl (by kernel_rfl) (by kernel_rfl) (by kernel_rfl) (fun _ _ _ h => h) (Or.inl ⟨rfl, ?_⟩) hHeld ?_
  rotate_left
  · intro w hSw
    try dsimp only at hSw
    go_simp
    try exact rfl
  try simp only [Act.put, List.setIfInBounds_toArray, List.set_cons_zero, List.set_cons_succ]
  refine wpAnyH_take (i := 11) (oi := { dst := some 53, op := _, type := _, pos := _, after := _, guard := none }) (v := ?_) rfl (by kernel_rfl) (by kernel_rfl) (by kernel_rfl) (fun _ _ _ h => h) (Or.inl ⟨rfl, ?_⟩) hHeld ?_
  rotate_left
  · intro w hSw
    try dsimp only at hSw
    go_simp
    try exact rfl
  try simp only [Act.put, List.setIfInBounds_toArray, List.set_cons_zero, List.set_cons_succ]
  refine wpAnyH_ready (rs := [12]) (by kernel_rfl) (by simp) ?_
  refine AllReadyH.cons (o := _) rfl (fun K hK => ?_) AllReadyH.nil
  go_simp
  have HD3 := (HD.out.kp HFB.out HKP.out hne.1 hne.2.1 hne.2.2).below hBD3
  have HT3 := (HT.out.below (show Below B w w3 from HFB.out.below (fun jj hjj => ⟨by have := HP.out.lt; omega, fun e => by have : jj = g := e; omega⟩))).below (hBD3.mono (by have := HP3.out.lt; omega))
  have hms3 : MsAt w3.drew A (os i).maps := by
    obtain ⟨A', c', e, q, -⟩ := HP3.out.ms i hi
    rw [HNM.out.1] at e
    injection e with e1 e2 e3
    rw [e1]
    rw [upd_same] at q
    exact q.below hBD3
  have hzl : (([x0, x1, x2, x3, x4, x5, x6, x7] : List Int).take n).length = n := by simp; omega
  have hrd : Arg w3.drew (some ⟨Bf, 2, none⟩) 8 (([x0, x1, x2, x3, x4, x5, x6, x7] : List Int).take n) := by
    have hbk := blk_below HBF.out hBD3
    have hc8 := Go.Proofs.YtokebpeplopjhaaDoorW.PrintWords.blk_cell hbk
    have h8 : ∀ j (h : j < 8), w3.drew.cell? ((⟨Bf, 2, none⟩ : Addr).add j) = some (.int .u8 (([x0, x1, x2, x3, x4, x5, x6, x7] : List Int)[j]?.getD 0)) := fun j h => by
      match j, h with
      | 0, _ => exact hc8 2
      | 1, _ => exact hc8 3
      | 2, _ => exact hc8 4
      | 3, _ => exact hc8 5
      | 4, _ => exact hc8 6
      | 5, _ => exact hc8 7
      | 6, _ => exact hc8 8
      | 7, _ => exact hc8 9
    refine ⟨⟨by omega, fun _ => ⟨⟨Bf, 2, none⟩, rfl, fun j hj => ?_⟩⟩, fun x hx => hxs x (List.mem_of_mem_take hx), by omega, by omega⟩
    rw [List.getElem?_take, if_pos (by omega)]
    exact h8 j (by omega)
  have HW := mwrite_any B gd bi bs d hG (os i).maps A cc (some ⟨Bf, 2, none⟩) 8 _ w3.drew HD3 HT3 hms3 (by have := HSM.out.2.2.2; omega) HSM.out.2.2.1 hrd
  rw [HNM.out.2, hzl] at HW
  with_reducible refine HW.mono ?_
  rintro e w5 ⟨rfl, q5, f5⟩
  have HF5 := Aside0.mk f5
  have HQ5 := Aside0.mk q5
  have HNB := Aside0.mk HD3.noByte
  clear HW hrd hms3 HT3 HD3 q5
  refine hK.out _ _ ((Fr.of_below hBD3).trans f5) (fun hHeld2 => ?_)
  clear hK K f5
  try simp only [Act.put, List.setIfInBounds_toArray, List.set_cons_zero, List.set_cons_succ]
  refine wpAnyH_take (i := 13) (oi := { dst := some 6, op := Op.assign (Operand.tmp 54), type := _, pos := _, after := _, guard := none }) (v := ?_) rfl (by kernel_rfl) (by kernel_rfl) (by kernel_rfl) (fun _ _ _ h => h) (Or.inl ⟨rfl, ?_⟩) hHeld2 ?_
  rotate_left
  · intro w hSw
    try dsimp only at hSw
    go_simp
    try exact rfl
  try simp only [Act.put, List.setIfInBounds_toArray, List.set_cons_zero, List.set_cons_succ]
  refine wpAnyH_take (i := 14) (oi := { dst := some 7, op := Op.assign (Operand.const (Value.bool true)), type := _, pos := _, after := _, guard := none }) (v := ?_) rfl (by kernel_rfl) (by kernel_rfl) (by kernel_rfl) (fun _ _ _ h => h) (Or.inl ⟨rfl, ?_⟩) hHeld2 ?_
  rotate_left
  · intro w hSw
    try dsimp only at hSw
    go_simp
    try exact rfl
  try simp only [Act.put, List.setIfInBounds_toArray, List.set_cons_zero, List.set_cons_succ]
  refine wpAnyH_done (by kernel_rfl) ?_ _
  clear hHeld hHeld2 v0 v1 v6 vc
  go_wp2
  go_ret2
  refine ⟨rfl, (HP3.out.below hBD3).frM HF5.out HNB.out (by rintro (e | e); exact hne.1 e.symm; exact hne.2.1 e.symm), HQ5.out, ?_⟩
  exact (HFB.out.mono (fun k e => .inl e)).trans ((Fr.of_below hBD3).trans (HF5.out.mono (fun k e => .inr e)))
end Go.Proofs.YtokebpeplopjhaaDoor.Mp
namespace Go.Proofs.YtokebpeplopjhaaDoor.Mp
open Go.RowKit Go.Shelf Go.Proofs.YtokebpeplopjhaaDoor.Rng Go.Proofs.YtokebpeplopjhaaDoorW.PrintWords Go.Proofs.YtokebpeplopjhaaDoorW.PrintMore Go.Proofs.YtokebpeplopjhaaDoorW.PrintLast

/-- Two cells, raw. -/
def kTold : Kd (List Value) where
  sz := 2
  E := []
  K _ x cs := cs = x ∧ x.length = 2 ∧ ∀ u ∈ x, u.oneCell' = true
  M _ _ _ x cs := cs = x ∧ x.length = 2 ∧ ∀ u ∈ x, u.oneCell' = true
  K_len := fun h => h.1 ▸ h.2.1
  K_one := fun h => h.1 ▸ h.2.2
  K_below := fun _ h => h
  K_of_M := fun h => h
  M_mono := fun _ h => h
  M_bound := fun h => h
  M_move := fun _ h => h
  M_lower := fun _ h => h
theorem info_told : (Tryd.prog.info? 118).map (fun i => (i.zero, i.size, i.bytes)) = some (some (.agg #[.int .i64 0, .int .u32 0]), 2, 16) := by kernel_rfl
end Go.Proofs.YtokebpeplopjhaaDoor.Mp
namespace Go.Proofs.YtokebpeplopjhaaDoor.Mp
open Go.RowKit Go.Shelf Go.Proofs.YtokebpeplopjhaaDoor.Rng Go.Proofs.YtokebpeplopjhaaDoorW.PrintWords Go.Proofs.YtokebpeplopjhaaDoorW.PrintMore Go.Proofs.YtokebpeplopjhaaDoorW.PrintLast

/-- What is told: of each object the number and the code, if there is one. -/
def toldL (r : Nat → Option Int) : Nat → List (List Value)
  | 0 => []
  | i + 1 => toldL r i ++ match r i with
    | none => []
    | some c => [[.int .i64 i, .int .u32 c]]
theorem told_len (r : Nat → Option Int) : ∀ n, (toldL r n).length ≤ n
  | 0 => Nat.le_refl _
  | n + 1 => by
    have := told_len r n
    unfold toldL
    rw [List.length_append]
    cases r n <;> simp <;> omega
theorem told_none {r : Nat → Option Int} : ∀ {n : Nat}, (∀ i, i < n → r i = none) → toldL r n = []
  | 0, _ => rfl
  | n + 1, h => by
    unfold toldL
    rw [told_none (fun i hi => h i (by omega)), h n (by omega)]
    rfl
theorem told_one {r : Nat → Option Int} {p : Nat} {c : Int} (hp : r p = some c) : ∀ {n : Nat}, p < n → (∀ i, i < n → i ≠ p → r i = none) → toldL r n = [[.int .i64 p, .int .u32 c]]
  | 0, h, _ => by omega
  | n + 1, h, ho => by
    unfold toldL
    by_cases e : n = p
    · subst e
      rw [told_none (fun i hi => ho i (by omega) (by omega)), hp]
      rfl
    · rw [told_one hp (by omega) (fun i hi hne => ho i (by omega) hne), ho n (by omega) e]
      rfl
theorem MsAt.grow {w X X' : World} {A : Option Addr} {l : List Mp} (h0 : MsAt w A l) (h : MsAt X A l) (hf : Fr (fun k => w.heap.size ≤ k) X X') : MsAt X' A l := by
  intro j m hj
  obtain ⟨ad, hA, q1, q2, q3⟩ := h j m hj
  obtain ⟨ad', hA', p1, -, -⟩ := h0 j m hj
  rw [hA] at hA'
  injection hA' with e
  subst e
  have hb : ¬ w.heap.size ≤ (ad.add (j * 3)).block := Nat.not_le.2 (World.block_lt_of_cell? w _ p1)
  exact ⟨ad, hA, hf.cell q1 hb, hf.cell q2 hb, hf.cell q3 hb⟩
/-- A consumer's rows of Maps lay in the first world: what grows beyond it leaves the consumer. -/
theorem CnAt.grow {w X X' : World} {g : Nat} {vd : Value} {os os' : Nat → Co} {vm : Nat → Value} {b b' : Bool} (h : CnAt X g vd os' vm b) (h0 : CnAt w g vd os vm b') (hm : ∀ i, i < 8 → (os' i).maps = (os i).maps) (hf : Fr (fun k => w.heap.size ≤ k) X X') : CnAt X' g vd os' vm b := by
  have hg : ¬ w.heap.size ≤ g := Nat.not_le.2 h0.lt
  refine ⟨hf.cell h.d0 hg, fun i hi j u hu => hf.cell (h.ob i hi j u hu) hg, hf.cell h.gs hg, fun k => (World.frozen?_of_block (a := ⟨g, k, none⟩) (hf.block g h.lt hg)).trans (h.fz k), fun i hi => ?_⟩
  obtain ⟨A, c, e, q1, q2⟩ := h.ms i hi
  obtain ⟨A', c', e', p1, -⟩ := h0.ms i hi
  rw [hm i hi] at e q1 q2 ⊢
  rw [e] at e'
  injection e' with e1 e2 e3
  subst e1
  exact ⟨A, c, e, p1.grow q1 hf, q2⟩
end Go.Proofs.YtokebpeplopjhaaDoor.Mp
namespace Go.Proofs.YtokebpeplopjhaaDoor.Mp
open Go.RowKit Go.Shelf Go.Proofs.YtokebpeplopjhaaDoor.Rng Go.Proofs.YtokebpeplopjhaaDoorW.PrintWords Go.Proofs.YtokebpeplopjhaaDoorW.PrintMore Go.Proofs.YtokebpeplopjhaaDoorW.PrintLast

/-- What a closure says of an object. -/
def StepSaid (w : World) (S : Nat → World → Prop) (r : Nat → Option Int) (i : Nat) (X : World) (e : Ending) (X' : World) : Prop :=
  (∃ code, (e = .returned (.tuple #[.int .u32 code, .bool true]) ∧ r i = some code) ∨ (e = .returned (.tuple #[.int .u32 code, .bool false]) ∧ r i = none)) ∧ S (i + 1) X' ∧ X.heap.size ≤ X'.heap.size ∧ (toldL r i = [] ∨ Fr (fun k => k < w.heap.size) X X')
/-- What each tells. -/
def EachSaid (S : Nat → World → Prop) (r : Nat → Option Int) (e : Ending) (w' : World) : Prop := ∃ A c, e = .returned (.slice A (toldL r 8).length c) ∧ kTold.C w' A (toldL r 8).length (toldL r 8) ∧ S 8 w'
set_option maxRecDepth 100000 in
set_option maxHeartbeats 4000000 in
theorem ceach_any (g F : Nat) (caps : Array Value) (S : Nat → World → Prop) (on : Nat → Bool) (r : Nat → Option Int) (w : World) (hF : ∀ args X, (callFunc F args).run Tryd.prog X = .ok (.enter F args) X) (h0 : S 0 w) (hgs : w.cell? ⟨g, 161, none⟩ = some (.bool true))
    (hon : ∀ i X, i < 8 → S i X → X.cell? ⟨g, 1 + i * 20, none⟩ = some (.bool (on i)))
    (hoff : ∀ i X, i < 8 → on i = false → S i X → S (i + 1) X) (hroff : ∀ i, i < 8 → on i = false → r i = none)
    (hstep : ∀ i X, i < 8 → on i = true → S i X → Calls Tryd.prog F (#[.pointer (some ⟨g, 1 + i * 20, none⟩)] ++ caps) X (StepSaid w S r i X))
    (hgrow : ∀ i X X' c, r i = some c → S (i + 1) X → w.heap.size ≤ X.heap.size → Fr (fun k => w.heap.size ≤ k) X X' → (toldL r i = [] → Below X.heap.size X X') → S (i + 1) X') :
    Calls Tryd.prog 100 #[.pointer (some ⟨g, 0, none⟩), .func (Fn.func F) #[] caps] w (EachSaid S r) := by
  have H0 := Aside0.mk h0
  have HON := Aside0.mk hon
  have HOFF := Aside0.mk (And.intro hoff hroff)
  have HST := Aside0.mk hstep
  have HGR := Aside0.mk hgrow
  clear h0 hon hoff hroff hstep hgrow
  go_enter Tryd.func100, Tryd.ntmps100
  go_wp2
  go_loopw [5, 18] (fun ov iv wr => ∃ (i : Nat), i ≤ 8 ∧ iv = .int .i64 i ∧ Aside0 (S i wr) ∧ Aside0 (Kd.R kTold 118 wr w.heap.size (fun _ => True) ov (toldL r i)) ∧ Aside0 (w.heap.size ≤ wr.heap.size ∧ (toldL r i = [] → ov = .slice none 0 0))) (fun _ iv _ => 8 - (intOf iv).toNat)
  case atStart => exact ⟨0, by omega, rfl, H0, ⟨Kd.R_nil _ _ _ _ _⟩, ⟨Nat.le_refl _, fun _ => rfl⟩⟩
  case round =>
    obtain ⟨i, hi, rfl, HSI, HRO, HSZ⟩ := hrel
    by_cases hlt : i < 8
    · have hi1 : (i : Int) < 8 := by omega
      have y0 := HON.out i wr hlt HSI.out
      cases ho : on i with
      | false =>
        rw [ho] at y0
        have hr := HOFF.out.2 i hlt ho
        have hnx : toldL r (i + 1) = toldL r i := by
          show toldL r i ++ _ = _
          rw [hr]
          exact List.append_nil _
        have HNX := Aside0.mk (And.intro hnx (HOFF.out.1 i wr hlt ho HSI.out))
        clear hnx hr ho
        go_wp2
        go_roundw
        case rel => exact ⟨i + 1, by omega, by go_num, ⟨HNX.out.2⟩, ⟨by rw [HNX.out.1]; exact HRO.out⟩, ⟨HSZ.out.1, by rw [HNX.out.1]; exact HSZ.out.2⟩⟩
        case measure => simp [intOf]; omega
      | true =>
        rw [ho] at y0
        have HSTI := Aside0.mk (HST.out i wr hlt ho HSI.out)
        clear ho
        go_wp2
        refine HSTI.out.mono ?_
        rintro e X ⟨⟨code, ⟨rfl, hr⟩ | ⟨rfl, hr⟩⟩, hs, hsz, hf⟩
        · have HS := Aside0.mk hs
          have hx : toldL r (i + 1) = toldL r i ++ [([.int .i64 i, .int .u32 code] : List Value)] := by
            show toldL r i ++ _ = _
            rw [hr]
          have HX := Aside0.mk hx
          have HRI := Aside0.mk hr
          have HRX := Aside0.mk (show Kd.R kTold 118 X w.heap.size (fun _ => True) u5 (toldL r i) from by
            rcases hf with hz | hf
            · rw [HSZ.out.2 hz, hz]
              exact Kd.R_nil _ _ _ _ _
            · exact R_fr HRO.out hf (fun k hk => Nat.not_lt.2 hk))
          have HSX := Aside0.mk (Nat.le_trans HSZ.out.1 hsz)
          clear hx hr hs hf hsz
          have HLN := Aside0.mk (show ((toldL r i).length + 1) * 16 ≤ 140737488355328 by have := told_len r i; omega)
          go_wp2_with ((with_reducible refine gate_dst (N := 46) rfl ?_); go_loud (refine Kd.R_append kTold (w0 := X) w.heap.size rfl (.tmp 41) (.tmp 45) 100 118 (.agg #[.int .i64 0, .int .u32 0]) 16 rfl Tryd.underlying100 info_told rfl (by decide) (by decide) _ (toldL r i) [.int .i64 i, .int .u32 code] [.int .i64 i, .int .u32 code] (fun _ => True) (fun _ => False) rfl rfl ⟨rfl, rfl, by intro u hu; simp at hu; rcases hu with rfl | rfl <;> rfl⟩ (fun _ hk => hk.elim) (fun _ _ => trivial) HRX.out (Below.refl _ _) HSX.out HLN.out ?_; intro v7 w7 hown hb hg hat; have HR7 := Aside0.mk hown; have HB7 := Aside0.mk hb; have HG7 := Aside0.mk hg; have HT7 := Aside0.mk hat; clear hown hb hg hat))
          go_roundw
          case rel =>
            have hf7 : Fr (fun k => w.heap.size ≤ k) X w7 := ⟨HB7.out.os, HB7.out.tape, HB7.out.output, HG7.out.size, fun k _ hk => HB7.out.block k (by omega)⟩
            refine ⟨i + 1, by omega, by go_num, ⟨HGR.out i X w7 code HRI.out HS.out HSX.out hf7 (fun he => ?_)⟩, ⟨by rw [HX.out]; exact HR7.out⟩, ⟨Nat.le_trans HSX.out hf7.size, fun he => ?_⟩⟩
            · have hu := HSZ.out.2 he
              have hg := HG7.out
              subst hu
              exact (Fr.of_grownBy (M := fun _ => False) hg (fun k hk => absurd (show (Option.none : Option Nat) = some k from hk) (by simp))).below (fun k hk => ⟨hk, fun h => h⟩)
            · rw [HX.out] at he
              simp at he
          case measure => simp [intOf]; omega
        · have hnx : toldL r (i + 1) = toldL r i := by
            show toldL r i ++ _ = _
            rw [hr]
            exact List.append_nil _
          have HNX := Aside0.mk (And.intro hnx hs)
          have HRX := Aside0.mk (show Kd.R kTold 118 X w.heap.size (fun _ => True) u5 (toldL r i) from by
            rcases hf with hz | hf
            · rw [HSZ.out.2 hz, hz]
              exact Kd.R_nil _ _ _ _ _
            · exact R_fr HRO.out hf (fun k hk => Nat.not_lt.2 hk))
          have HSX := Aside0.mk (Nat.le_trans HSZ.out.1 hsz)
          clear hnx hr hs hf hsz
          go_wp2
          go_roundw
          case rel => exact ⟨i + 1, by omega, by go_num, ⟨HNX.out.2⟩, ⟨by rw [HNX.out.1]; exact HRX.out⟩, ⟨HSX.out, by rw [HNX.out.1]; exact HSZ.out.2⟩⟩
          case measure => simp [intOf]; omega
    · obtain rfl : i = 8 := by omega
      have hi1 : ¬ (8 : Int) < 8 := by omega
      obtain ⟨A, c, hv, hl, hC⟩ := Kd.R_reads HRO.out
      subst hv
      have HC := Aside0.mk hC
      clear hC hl
      go_wp2
      go_ret
      exact ⟨A, c, rfl, HC.out, HSI.out⟩
end Go.Proofs.YtokebpeplopjhaaDoor.Mp
