/- Producers: rows off the frames' own block. Producers: Set, where it is done. Consumers in memory; time, may, watched, New. -/
import Derived.Test.YtokebpeplopjhaaDoorY13
import Derived.Test.YtokebpeplopjhaaDoorY9
import Derived.StillTailTactics
import Derived.Deep.RegionHeld3
import Derived.Deep.MidRow
namespace Go.Proofs.YtokebpeplopjhaaDoor.Mp
open Go.RowKit Go.Shelf Go.Proofs.YtokebpeplopjhaaDoor.Rng Go.Proofs.YtokebpeplopjhaaDoorW.PrintWords Go.Proofs.YtokebpeplopjhaaDoorW.PrintMore Go.Proofs.YtokebpeplopjhaaDoorW.PrintLast

theorem MsN.two {g k : Nat} {w w' : World} {v : Value} {l : List Mp} (a : MsN k w v l) (b : MsN g w v l) (hf : Fr (fun x => x = g) w w') : MsN k w' v l := by
  obtain ⟨A, c, e, h1, h2⟩ := a
  obtain ⟨A', c', e', h1', -⟩ := b.set hf
  subst e
  injection e' with e1 e2 e3
  subst e1 e3
  exact ⟨A, c, rfl, h1', h2⟩
theorem MsN.fresh {g k : Nat} {w : World} {v : Value} {l : List Mp} (a : MsN g w v l) (hk : w.heap.size ≤ k) : MsN k w v l := by
  obtain ⟨A, c, e, h1, h2⟩ := a
  refine ⟨A, c, e, h1, fun ad hA hl he => ?_⟩
  obtain ⟨ad', hA', h0, -⟩ := h1 0 _ (List.getElem?_eq_getElem hl)
  rw [hA] at hA'
  injection hA' with hA'
  subst hA'
  have := World.block_lt_of_cell? w _ h0
  rw [Go.Proofs.YtokebpeplopjhaaDoorW.PrintWords.add_block] at this
  omega
/-- The rows lie off a value's own block. -/
def OffO (w : World) (ov : Value) (os : Nat → Ob) (vm vb : Nat → Value) : Prop := ∀ k, ov.ownBlock = some k → ∀ j, j < 8 → ArgN k w (vb j) (os j).bts ∧ MsN k w (vm j) (os j).maps
theorem OffO.below {w w' : World} {ov : Value} {os : Nat → Ob} {vm vb : Nat → Value} (h : OffO w ov os vm vb) (hb : Below w.heap.size w w') : OffO w' ov os vm vb := fun k hk j hj => ⟨(h k hk j hj).1.below hb, (h k hk j hj).2.below hb⟩
/-- The frames' row has grown: the producer stays. -/
theorem PrAt.grown {w w' : World} {g : Nat} {vd ov : Value} {os : Nat → Ob} {vm vb : Nat → Value} {goes : Bool} {now : Int} (h : PrAt w g vd os vm vb goes now) (ho : OffO w ov os vm vb) (hne : ov.ownBlock ≠ some g) (hg : w.grownBy w' ov.ownBlock) : PrAt w' g vd os vm vb goes now := by
  have hb : w'.heap[g]? = w.heap[g]? := hg.block g h.lt (fun e => hne (Eq.symm e))
  have hc : ∀ k, w'.cell? ⟨g, k, none⟩ = w.cell? ⟨g, k, none⟩ := fun k => World.cell?_of_block (a := ⟨g, k, none⟩) hb
  have rows : ∀ j, j < 8 → ArgN g w' (vb j) (os j).bts ∧ MsN g w' (vm j) (os j).maps := by
    intro j hj
    cases hk : ov.ownBlock with
    | none =>
      have hbl : Below w.heap.size w w' := ⟨hg.os, hg.tape, hg.output, hg.size, fun i hi => hg.block i hi (by rw [hk]; simp)⟩
      exact ⟨(h.bs j hj).below hbl, (h.ms j hj).below hbl⟩
    | some k =>
      have hf : Fr (fun x => x = k) w w' := Fr.of_grownBy hg (fun x hx => .inl (by rw [hk] at hx; injection hx with hx; exact hx.symm))
      obtain ⟨q1, q2⟩ := ho k hk j hj
      exact ⟨ArgN.two (h.bs j hj) q1 hf, MsN.two (h.ms j hj) q2 hf⟩
  exact ⟨(hc 0).trans h.d0, fun i hi j u hu => (hc _).trans (h.ob i hi j u hu), (hc 105).trans h.gs, (hc 106).trans h.nw, fun k => (World.frozen?_of_block (a := ⟨g, k, none⟩) hb).trans (h.fz k), fun i hi => (rows i hi).2, fun i hi => (rows i hi).1⟩
theorem OffO.grown {w w' : World} {g : Nat} {vd ov v' : Value} {os : Nat → Ob} {vm vb : Nat → Value} {goes : Bool} {now : Int} (ho : OffO w ov os vm vb) (h : PrAt w g vd os vm vb goes now) (hg : w.grownBy w' ov.ownBlock) (hat : v'.ownBlock = ov.ownBlock ∨ ∃ b, v'.ownBlock = some b ∧ w.heap.size ≤ b) : OffO w' v' os vm vb := by
  intro k hk j hj
  have base : ArgN k w (vb j) (os j).bts ∧ MsN k w (vm j) (os j).maps := by
    rcases hat with e | ⟨b, e, hb⟩
    · exact ho k (by rw [← e]; exact hk) j hj
    · rw [e] at hk
      injection hk with hk
      subst hk
      exact ⟨(h.bs j hj).argv.toN hb, (h.ms j hj).fresh hb⟩
  cases hk0 : ov.ownBlock with
  | none =>
    have hbl : Below w.heap.size w w' := ⟨hg.os, hg.tape, hg.output, hg.size, fun i hi => hg.block i hi (by rw [hk0]; simp)⟩
    exact ⟨base.1.below hbl, base.2.below hbl⟩
  | some k0 =>
    have hf : Fr (fun x => x = k0) w w' := Fr.of_grownBy hg (fun x hx => .inl (by rw [hk0] at hx; injection hx with hx; exact hx.symm))
    obtain ⟨q1, q2⟩ := ho k0 hk0 j hj
    exact ⟨ArgN.two base.1 q1 hf, MsN.two base.2 q2 hf⟩
/-- The object is sent: four cells. -/
theorem PrAt.sent {w : World} {g : Nat} {vd : Value} {os : Nat → Ob} {vm vb : Nat → Value} {goes : Bool} {n0 : Int} (h : PrAt w g vd os vm vb goes n0) {i : Nat} (hi : i < 8) (now : Int) (v : Value) (zs : List Int) (hv : ArgN g w v zs) :
    PrAt (w.setCells g (1 + i * 13 + 7) [.bool true, v, .int .i64 now, .bool false]) g vd (upd os i { os i with sent := true, bts := zs, at_ := now, wanted := false }) vm (upd vb i v) goes n0 := by
  have h1 := h.store hi (t := 7) [.bool true, v, .int .i64 now, .bool false] (by simp) { os i with sent := true, bts := zs, at_ := now, wanted := false } (vm i) v (fun j u hu => ?_) (h.ms i hi) hv
  · rw [show upd vm i (vm i) = vm from funext fun k => by unfold upd; split; rename_i e; rw [e]; rfl] at h1
    exact h1
  · have hj : j < 13 := (List.getElem?_eq_some_iff.1 hu).1
    match j, hj, hu with
    | 0, _, hu => exact .inr ⟨.inl (by omega), hu⟩
    | 1, _, hu => exact .inr ⟨.inl (by omega), hu⟩
    | 2, _, hu => exact .inr ⟨.inl (by omega), hu⟩
    | 3, _, hu => exact .inr ⟨.inl (by omega), hu⟩
    | 4, _, hu => exact .inr ⟨.inl (by omega), hu⟩
    | 5, _, hu => exact .inr ⟨.inl (by omega), hu⟩
    | 6, _, hu => exact .inr ⟨.inl (by omega), hu⟩
    | 7, _, hu => exact .inl ⟨by omega, by simp, hu⟩
    | 8, _, hu => exact .inl ⟨by omega, by simp, hu⟩
    | 9, _, hu => exact .inl ⟨by omega, by simp, hu⟩
    | 10, _, hu => exact .inl ⟨by omega, by simp, hu⟩
    | 11, _, hu => exact .inr ⟨.inr (by simp), hu⟩
    | 12, _, hu => exact .inr ⟨.inr (by simp), hu⟩
end Go.Proofs.YtokebpeplopjhaaDoor.Mp
set_option linter.unusedSimpArgs false
set_option linter.unusedVariables false
namespace Go.Proofs.YtokebpeplopjhaaDoor.Mp
open Go.RowKit Go.Shelf Go.Proofs.YtokebpeplopjhaaDoor.Rng Go.Proofs.YtokebpeplopjhaaDoorW.PrintWords Go.Proofs.YtokebpeplopjhaaDoorW.PrintMore Go.Proofs.YtokebpeplopjhaaDoorW.PrintLast

theorem size_ob : (Tryd.prog.info? 155).map (·.size) = some 13 := by kernel_rfl
theorem PrAt.there {w : World} {g : Nat} {vd : Value} {os : Nat → Ob} {vm vb : Nat → Value} {goes : Bool} {now : Int} (h : PrAt w g vd os vm vb goes now) {i : Nat} (hi : i < 8) : w.there g (1 + i * 13) 13 := fun j hj => by
  have hl : ((os i).cells (vm i) (vb i)).length = 13 := rfl
  rw [h.ob i hi j _ (List.getElem?_eq_getElem (by rw [hl]; omega))]
  exact ⟨rfl, h.fz _⟩
theorem there_below {w w' : World} {g o n : Nat} (h : w.there g o n) (hb : Below w.heap.size w w') : w'.there g o n := fun j hj => by
  obtain ⟨h1, h2⟩ := h j hj
  obtain ⟨v, hv⟩ := Option.isSome_iff_exists.1 h1
  have hlt : g < w.heap.size := World.block_lt_of_cell? w _ hv
  exact ⟨by rw [pw_cell_below hb hv]; rfl, by rw [World.frozen?_of_block (a := ⟨g, o + j, none⟩) (hb.block g hlt)]; exact h2⟩
theorem upd_upd {α : Type} (f : Nat → α) (i : Nat) (x y : α) : upd (upd f i x) i y = upd f i y := by
  funext k
  unfold upd
  split <;> rfl
/-- An object that is set. -/
def setOb (c : Cm) (l : List Mp) : Ob := ⟨c, l, false, [], 0, false, 0, false⟩
theorem PrAt.setOb {w : World} {g : Nat} {vd : Value} {os : Nat → Ob} {vm vb : Nat → Value} {goes : Bool} {n0 : Int} (h : PrAt w g vd os vm vb goes n0) {i : Nat} (hi : i < 8) (c : Cm) (l : List Mp) (v : Value) (hv : MsN g w v l) :
    PrAt (w.setCells g (1 + i * 13) ((setOb c l).cells v (.slice none 0 0))) g vd (upd os i (setOb c l)) (upd vm i v) (upd vb i (.slice none 0 0)) goes n0 :=
  h.store hi (t := 0) ((Mp.setOb c l).cells v (.slice none 0 0)) (Nat.le_refl _) (Mp.setOb c l) v (.slice none 0 0) (fun j u hu => .inl ⟨by omega, by have hj : j < 13 := (List.getElem?_eq_some_iff.1 hu).1; show j < 0 + 13; omega, hu⟩) hv (ArgN.nil g w)
theorem there13 {w : World} {g o : Nat} (h : w.there g o 13) : ∃ z0 z1 z2 z3 z4 z5 z6 z7 z8 z9 z10 z11 z12, w.cell? ⟨g, o, none⟩ = some z0 ∧ w.cell? ⟨g, o + 1, none⟩ = some z1 ∧ w.cell? ⟨g, o + 2, none⟩ = some z2 ∧ w.cell? ⟨g, o + 3, none⟩ = some z3 ∧ w.cell? ⟨g, o + 4, none⟩ = some z4 ∧ w.cell? ⟨g, o + 5, none⟩ = some z5 ∧ w.cell? ⟨g, o + 6, none⟩ = some z6 ∧ w.cell? ⟨g, o + 7, none⟩ = some z7 ∧ w.cell? ⟨g, o + 8, none⟩ = some z8 ∧ w.cell? ⟨g, o + 9, none⟩ = some z9 ∧ w.cell? ⟨g, o + 10, none⟩ = some z10 ∧ w.cell? ⟨g, o + 11, none⟩ = some z11 ∧ w.cell? ⟨g, o + 12, none⟩ = some z12 ∧ w.frozen? ⟨g, o, none⟩ = false ∧ w.frozen? ⟨g, o + 1, none⟩ = false ∧ w.frozen? ⟨g, o + 2, none⟩ = false ∧ w.frozen? ⟨g, o + 3, none⟩ = false ∧ w.frozen? ⟨g, o + 4, none⟩ = false ∧ w.frozen? ⟨g, o + 5, none⟩ = false ∧ w.frozen? ⟨g, o + 6, none⟩ = false ∧ w.frozen? ⟨g, o + 7, none⟩ = false ∧ w.frozen? ⟨g, o + 8, none⟩ = false ∧ w.frozen? ⟨g, o + 9, none⟩ = false ∧ w.frozen? ⟨g, o + 10, none⟩ = false ∧ w.frozen? ⟨g, o + 11, none⟩ = false ∧ w.frozen? ⟨g, o + 12, none⟩ = false := by
  obtain ⟨q0, f0⟩ := h 0 (by omega)
  obtain ⟨z0, y0⟩ := Option.isSome_iff_exists.1 q0
  obtain ⟨q1, f1⟩ := h 1 (by omega)
  obtain ⟨z1, y1⟩ := Option.isSome_iff_exists.1 q1
  obtain ⟨q2, f2⟩ := h 2 (by omega)
  obtain ⟨z2, y2⟩ := Option.isSome_iff_exists.1 q2
  obtain ⟨q3, f3⟩ := h 3 (by omega)
  obtain ⟨z3, y3⟩ := Option.isSome_iff_exists.1 q3
  obtain ⟨q4, f4⟩ := h 4 (by omega)
  obtain ⟨z4, y4⟩ := Option.isSome_iff_exists.1 q4
  obtain ⟨q5, f5⟩ := h 5 (by omega)
  obtain ⟨z5, y5⟩ := Option.isSome_iff_exists.1 q5
  obtain ⟨q6, f6⟩ := h 6 (by omega)
  obtain ⟨z6, y6⟩ := Option.isSome_iff_exists.1 q6
  obtain ⟨q7, f7⟩ := h 7 (by omega)
  obtain ⟨z7, y7⟩ := Option.isSome_iff_exists.1 q7
  obtain ⟨q8, f8⟩ := h 8 (by omega)
  obtain ⟨z8, y8⟩ := Option.isSome_iff_exists.1 q8
  obtain ⟨q9, f9⟩ := h 9 (by omega)
  obtain ⟨z9, y9⟩ := Option.isSome_iff_exists.1 q9
  obtain ⟨q10, f10⟩ := h 10 (by omega)
  obtain ⟨z10, y10⟩ := Option.isSome_iff_exists.1 q10
  obtain ⟨q11, f11⟩ := h 11 (by omega)
  obtain ⟨z11, y11⟩ := Option.isSome_iff_exists.1 q11
  obtain ⟨q12, f12⟩ := h 12 (by omega)
  obtain ⟨z12, y12⟩ := Option.isSome_iff_exists.1 q12
  exact ⟨z0, z1, z2, z3, z4, z5, z6, z7, z8, z9, z10, z11, z12, y0, y1, y2, y3, y4, y5, y6, y7, y8, y9, y10, y11, y12, f0, f1, f2, f3, f4, f5, f6, f7, f8, f9, f10, f11, f12⟩
theorem S_step {g o n : Nat} {w2 X w3 : World} (h : Fr (fun k => k = g) w2 X ∧ X.there g o n) (hb : Below X.heap.size X w3) : Fr (fun k => k = g) w2 w3 ∧ w3.there g o n := ⟨h.1.trans (Fr.of_below hb), there_below h.2 hb⟩
theorem S_store {g o n o' : Nat} {w2 X : World} {vs : List Value} (h : Fr (fun k => k = g) w2 X ∧ X.there g o n) : Fr (fun k => k = g) w2 (X.setCells g o' vs) ∧ (X.setCells g o' vs).there g o n := ⟨h.1.trans (fr_cells _ _ _), World.there_setCells h.2 _ _ _⟩
theorem one13 (id kind inh ev st : Int) (A : Option Addr) (n c : Nat) : ∀ v ∈ ([.bool true, .int .u16 id, .int .u8 kind, .int .i64 inh, .int .i64 ev, .int .u8 st, .slice A n c, .bool false, .slice none 0 0, .int .i64 0, .bool false, .int .i64 0, .bool false] : List Value), v.oneCell' = true := by
  intro v hv
  simp only [List.mem_cons, List.not_mem_nil, or_false] at hv
  rcases hv with rfl | rfl | rfl | rfl | rfl | rfl | rfl | rfl | rfl | rfl | rfl | rfl | rfl <;> rfl
set_option maxRecDepth 100000 in
set_option maxHeartbeats 4000000 in
theorem pset_yes (B g gd bi bs : Nat) (d : DD) (os : Nat → Ob) (vm vb : Nat → Value) (goes : Bool) (n0 : Int) (i : Nat) (hi : i < 8) (c : Cm) (l : List Mp) (A : Option Addr) (cc : Nat) (w : World) (h : PrAt w g (.pointer (some ⟨gd, 0, none⟩)) os vm vb goes n0) (hD : DictB B w gd bi bs d) (hG : Good d) (ht : Tbl w) (hm : MsAt w A l) (hmn : ∀ ad, A = some ad → 0 < l.length → ad.block ≠ g) (hl : l.length ≤ 64) (hmw : ∀ m ∈ l, m.Wf) (hc : cmOk c) (hon : c.on = true) (hck : checkC (some d) l true = 0) :
    Calls Tryd.prog 40 #[.pointer (some ⟨g, 0, none⟩), .int .i64 i, c.v, .slice A l.length cc] w fun e w' => e = .returned (.int .u32 0) ∧ (∃ vm' vb', PrAt w' g (.pointer (some ⟨gd, 0, none⟩)) (upd os i ((setOb c l).begin_ n0)) vm' vb' goes n0) ∧ Fr (fun k => k = g) w w' := by
  have hgl := h.lt
  have HP := Aside0.mk h
  have HD := Aside0.mk hD
  have HT := Aside0.mk ht
  have HG := Aside0.mk hG
  have HM := Aside0.mk hm
  have HMN := Aside0.mk hmn
  have HMW := Aside0.mk hmw
  have HCK := Aside0.mk hck
  have hmay := fun X => pmay_any c X
  rw [decide_eq_true hc] at hmay
  have HMY := Aside0.mk hmay
  have hi0 : (0 : Int) ≤ (i : Int) := by omega
  have hi8 : (i : Int) < 8 := by omega
  have hn8 : ¬ (8 : Int) ≤ (i : Int) := by omega
  obtain ⟨n, hn⟩ : ∃ n, l.length = n := ⟨_, rfl⟩
  have HN := Aside0.mk hn
  have hnl : ¬ (64 : Int) < (n : Int) := by omega
  rw [hn] at hl ⊢
  obtain ⟨on, id, kind, inh, ev, st⟩ := c
  simp only at hon
  subst hon
  have hbx : ∀ o, Below w.heap.size w (w.alloc o) := fun o => below_alloc (Below.refl _ _) _
  have hbox := blk_new w (.cells #[.bool true, .int .u16 id, .int .u8 kind, .int .i64 inh, .int .i64 ev, .int .u8 st] 82)
  have HBOX := Aside0.mk hbox
  have HB0 := Aside0.mk (hbx (.cells #[.bool true, .int .u16 id, .int .u8 kind, .int .i64 inh, .int .i64 ev, .int .u8 st] 82))
  clear h hD ht hG hm hmn hmw hck hmay hc hn hbox hbx
  go_enter Tryd.func40, Tryd.ntmps40
  go_wp2_with (first
    | (go_at_call 89; refine (HMY.out _).mono ?_; rintro e w1 ⟨rfl, hb1⟩; have HB1 := Aside0.mk (HB0.out.trans (hb1.mono HB0.out.size)); have hb0 := Go.Proofs.YtokebpeplopjhaaDoorW.PrintWords.blk_cell (blk_below HBOX.out hb1) 0; have d0 := pw_cell_below HB1.out HP.out.d0; have HX1 := Aside0.mk (blk_below HBOX.out hb1); clear hb1)
    | (go_at_call 21; rw [← HN.out]; refine (mcheck_any B (.pointer (some ⟨gd, 0, none⟩)) (some d) l A cc true w1 ⟨gd, rfl, (HD.out.below HB1.out).dict⟩ (HT.out.below HB1.out) (HM.out.below HB1.out) (by have := HN.out; omega) HMW.out HG.out.find).mono ?_; rw [HCK.out]; rintro e w2 ⟨rfl, hb2⟩; rw [HN.out]; have HB2 := Aside0.mk (HB1.out.trans (hb2.mono HB1.out.size)); have HX2 := Aside0.mk (blk_below HX1.out hb2); clear hb2 hb0 d0))
  have hP2 := HP.out.below HB2.out
  have hx2 := HX2.out
  have hneb : w.heap.size ≠ g := by omega
  have hS0 : Fr (fun k => k = g) w2 w2.drew ∧ w2.drew.there g (1 + i * 13) 13 := ⟨Fr.of_below (below_drew (Below.refl _ _)), there_below (hP2.there hi) (below_drew (Below.refl _ _))⟩
  have u0 : ∀ X, (Fr (fun k => k = g) w2 X ∧ X.there g (1 + i * 13) 13) → X.cell? ⟨w.heap.size, 0, none⟩ = some (.bool true) := fun X hX => hX.1.cell (Go.Proofs.YtokebpeplopjhaaDoorW.PrintWords.blk_cell hx2 0) hneb
  have u1 : ∀ X, (Fr (fun k => k = g) w2 X ∧ X.there g (1 + i * 13) 13) → X.cell? ⟨w.heap.size, 1, none⟩ = some (.int .u16 id) := fun X hX => hX.1.cell (Go.Proofs.YtokebpeplopjhaaDoorW.PrintWords.blk_cell hx2 1) hneb
  have u2 : ∀ X, (Fr (fun k => k = g) w2 X ∧ X.there g (1 + i * 13) 13) → X.cell? ⟨w.heap.size, 1 + 1, none⟩ = some (.int .u8 kind) := fun X hX => hX.1.cell (Go.Proofs.YtokebpeplopjhaaDoorW.PrintWords.blk_cell hx2 2) hneb
  have u3 : ∀ X, (Fr (fun k => k = g) w2 X ∧ X.there g (1 + i * 13) 13) → X.cell? ⟨w.heap.size, 1 + 1 + 1, none⟩ = some (.int .i64 inh) := fun X hX => hX.1.cell (Go.Proofs.YtokebpeplopjhaaDoorW.PrintWords.blk_cell hx2 3) hneb
  have u4 : ∀ X, (Fr (fun k => k = g) w2 X ∧ X.there g (1 + i * 13) 13) → X.cell? ⟨w.heap.size, 1 + 1 + 1 + 1, none⟩ = some (.int .i64 ev) := fun X hX => hX.1.cell (Go.Proofs.YtokebpeplopjhaaDoorW.PrintWords.blk_cell hx2 4) hneb
  have u5 : ∀ X, (Fr (fun k => k = g) w2 X ∧ X.there g (1 + i * 13) 13) → X.cell? ⟨w.heap.size, 1 + 1 + 1 + 1 + 1, none⟩ = some (.int .u8 st) := fun X hX => hX.1.cell (Go.Proofs.YtokebpeplopjhaaDoorW.PrintWords.blk_cell hx2 5) hneb
  have HP2 := Aside0.mk hP2
  have HM2 := Aside0.mk (show MsN g w2 (.slice A l.length cc) l from ⟨A, cc, rfl, HM.out.below HB2.out, HMN.out⟩)
  have HCL := Aside0.mk fun (X : World) (hX : Fr (fun k => k = g) w2 X) => mclone_any A cc l X (by obtain ⟨A', c', e, q, -⟩ := HM2.out.set hX; injection e with e1 e2 e3; subst e1; exact q) (by have := HN.out; omega)
  rw [HN.out] at HCL
  clear hP2 hx2
  refine wp_region_held_drew (S := (fun X => Fr (fun k => k = g) w2 X ∧ X.there g (1 + i * 13) 13)) (by kernel_rfl) hS0 (fun hHeld => ?_)
  refine wpAnyH_take (i := 0) (oi := _) (v := ?_) rfl (by kernel_rfl) (by kernel_rfl) (by kernel_rfl) (fun _ _ _ h => h) (Or.inl ⟨rfl, ?_⟩) hHeld ?_
  rotate_left
  · intro w hSw
    try dsimp only at hSw
    go_simp
    try exact rfl
  try simp only [Act.put, List.setIfInBounds_toArray, List.set_cons_zero, List.set_cons_succ]
  refine wpAnyH_take (i := 1) (oi := _) (v := ?_) rfl (by kernel_rfl) (by kernel_rfl) (by kernel_rfl) (fun _ _ _ h => h) (Or.inl ⟨rfl, ?_⟩) hHeld ?_
  rotate_left
  · intro w hSw
    try dsimp only at hSw
    go_simp
    try exact rfl
  try simp only [Act.put, List.setIfInBounds_toArray, List.set_cons_zero, List.set_cons_succ]
  refine wpAnyH_take (i := 2) (oi := _) (v := ?_) rfl (by kernel_rfl) (by kernel_rfl) (by kernel_rfl) (fun _ _ _ h => h) (Or.inl ⟨rfl, ?_⟩) hHeld ?_
  rotate_left
  · intro w hSw
    try dsimp only at hSw
    go_simp
    try exact rfl
  try simp only [Act.put, List.setIfInBounds_toArray, List.set_cons_zero, List.set_cons_succ]
  refine wpAnyH_take (i := 3) (oi := _) (v := ?_) rfl (by kernel_rfl) (by kernel_rfl) (by kernel_rfl) (fun _ _ _ h => h) (Or.inl ⟨rfl, ?_⟩) hHeld ?_
  rotate_left
  · intro w hSw
    try dsimp only at hSw
    go_simp
    try exact rfl
  try simp only [Act.put, List.setIfInBounds_toArray, List.set_cons_zero, List.set_cons_succ]
  refine wpAnyH_take (i := 6) (oi := _) (v := ?_) rfl (by kernel_rfl) (by kernel_rfl) (by kernel_rfl) (fun _ _ _ h => h) (Or.inl ⟨rfl, ?_⟩) hHeld ?_
  rotate_left
  · intro w hSw
    try dsimp only at hSw
    go_simp
    try exact rfl
  try simp only [Act.put, List.setIfInBounds_toArray, List.set_cons_zero, List.set_cons_succ]
  refine wpAnyH_take (i := 7) (oi := _) (v := ?_) rfl (by kernel_rfl) (by kernel_rfl) (by kernel_rfl) (fun _ _ _ h => h) (Or.inl ⟨rfl, ?_⟩) hHeld ?_
  rotate_left
  · intro w hSw
    try dsimp only at hSw
    go_simp
    try exact rfl
  try simp only [Act.put, List.setIfInBounds_toArray, List.set_cons_zero, List.set_cons_succ]
  refine wpAnyH_ready (rs := [4]) (by kernel_rfl) (by simp) ?_
  refine AllReadyH.cons (o := _) rfl (fun K hK => ?_) AllReadyH.nil
  go_simp
  with_reducible refine (HCL.out _ (And.left hHeld)).mono ?_
  rintro e w3 ⟨v3, rfl, hm3, hb3⟩
  obtain ⟨A3, c3, hv3, hms3, hge3⟩ := hm3
  rw [HN.out] at hv3
  subst hv3
  have hS3 := S_step hHeld hb3
  have HS3 := Aside0.mk hS3
  have HM3 := Aside0.mk (And.intro hms3 hge3)
  have HB3 := Aside0.mk hb3
  clear hms3 hge3 hb3
  refine hK.out _ _ hS3 (fun hHeld2 => ?_)
  clear hK K
  try simp only [Act.put, List.setIfInBounds_toArray, List.set_cons_zero, List.set_cons_succ]
  refine wpAnyH_take (i := 5) (oi := { dst := some 45, op := Op.build 155 #[(0, Operand.tmp 42), (1, Operand.tmp 44)], type := 155, pos := _, after := _, guard := none }) (v := ?_) rfl (by kernel_rfl) (by kernel_rfl) (by kernel_rfl) (fun _ _ _ h => h) (Or.inl ⟨rfl, ?_⟩) hHeld2 ?_
  rotate_left
  · intro w hSw
    try dsimp only at hSw
    go_simp
    try exact rfl
  try simp only [Act.put, List.setIfInBounds_toArray, List.set_cons_zero, List.set_cons_succ]
  refine wpAnyH_take (i := 8) (oi := { dst := some 48, op := Op.indexAddr 156 (Operand.tmp 47) (Operand.tmp 41), type := 0, pos := _, after := _, guard := none }) (v := ?_) rfl (by kernel_rfl) (by kernel_rfl) (by kernel_rfl) (fun _ _ _ h => h) (Or.inl ⟨rfl, ?_⟩) hHeld2 ?_
  rotate_left
  · intro w hSw
    try dsimp only at hSw
    go_simp
    try exact rfl
  try simp only [Act.put, List.setIfInBounds_toArray, List.set_cons_zero, List.set_cons_succ]
  refine wpAnyH_ready (rs := [9]) (by kernel_rfl) (by simp) ?_
  refine AllReadyH.cons (o := { dst := none, op := Op.store 155 (Operand.tmp 48) (Operand.tmp 45), type := 0, pos := _, after := _, guard := none }) rfl (fun K hK => ?_) AllReadyH.nil
  rw [if_pos (by rfl)]
  refine wp_store_mid _ _ _ rfl _ _ (List.toArray _) rfl rfl ?_ ?_ (all_oneCell_toArray (one13 id kind inh ev st A3 n c3)) ?_
  · exact hS3.2
  · exact size_ob
  simp only [Act.put, List.setIfInBounds_toArray, List.set_cons_zero, List.set_cons_succ, List.toList_toArray]
  refine hK.out _ _ (S_store hHeld2) (fun hHeld3 => ?_)
  clear hK K
  try simp only [Act.put, List.setIfInBounds_toArray, List.set_cons_zero, List.set_cons_succ]
  refine wpAnyH_done (by kernel_rfl) ?_ _
  have HS4 := Aside0.mk hHeld3
  have HP3 := Aside0.mk (HP2.out.below (below_step (below_drew (Below.refl _ _)) HB3.out))
  have hms3 : MsN g w3 (.slice A3 n c3) l := ⟨A3, c3, by rw [HN.out], HM3.out.1, fun ad e _ he => by have h1 := HM3.out.2 ad e; have h2 := HP2.out.lt; simp at h1; omega⟩
  have HP4 := Aside0.mk (HP3.out.setOb hi ⟨true, id, kind, inh, ev, st⟩ l (.slice A3 n c3) hms3)
  clear hHeld hHeld2 hHeld3 hS3 u0 u1 u2 u3 u4 u5 hms3 hS0
  rw [show (setOb ⟨true, id, kind, inh, ev, st⟩ l).cells (.slice A3 n c3) (.slice none 0 0) = [.bool true, .int .u16 id, .int .u8 kind, .int .i64 inh, .int .i64 ev, .int .u8 st, .slice A3 n c3, .bool false, .slice none 0 0, .int .i64 0, .bool false, .int .i64 0, .bool false] from rfl] at HP4
  generalize w3.setCells g (1 + i * 13) [.bool true, .int .u16 id, .int .u8 kind, .int .i64 inh, .int .i64 ev, .int .u8 st, .slice A3 n c3, .bool false, .slice none 0 0, .int .i64 0, .bool false, .int .i64 0, .bool false] = w4 at HS4 HP4 ⊢
  have hnw : ∀ X, Below w4.heap.size w4 X → X.cell? ⟨g, 106, none⟩ = some (.int .i64 n0) := fun X hX => pw_cell_below hX HP4.out.nw
  have hnw2 := hnw _ (below_drew (Below.refl _ _))
  go_wp2
  go_still_tail 9, (by kernel_rfl)
  change wpList _ _ _ _ _ w4.drew
  have HBG := Aside0.mk (pbegin_any (setOb ⟨true, id, kind, inh, ev, st⟩ l) (.slice A3 n c3) (.slice none 0 0) g (1 + i * 13) n0 w4.drew (fun j u hu => pw_cell_below (below_drew (Below.refl _ _)) (HP4.out.ob i hi j u (by rw [upd_same, upd_same, upd_same]; exact hu))) (fun k => (World.frozen?_of_block rfl).trans (HP4.out.fz k)))
  clear hnw
  go_wp2_with (go_at_call 91; go_loud (refine HBG.out.mono ?_; rintro e w5 ⟨rfl, hw5⟩; have HW5 := Aside0.mk hw5; clear hw5))
  go_ret
  have hP5 := (HP4.out.below (below_drew (Below.refl _ _))).begin_ hi n0
  rw [upd_same, upd_upd] at hP5
  refine ⟨rfl, ⟨_, _, by rw [HW5.out]; exact hP5⟩, ?_⟩
  rw [HW5.out]
  exact (Fr.of_below HB2.out).trans (HS4.out.1.trans ((Fr.of_below (below_drew (Below.refl _ _))).trans (fr_cells _ _ _)))
end Go.Proofs.YtokebpeplopjhaaDoor.Mp
namespace Go.Proofs.YtokebpeplopjhaaDoor.Mp
open Go.RowKit Go.Shelf Go.Proofs.YtokebpeplopjhaaDoor.Rng Go.Proofs.YtokebpeplopjhaaDoorW.PrintWords Go.Proofs.YtokebpeplopjhaaDoorW.PrintMore Go.Proofs.YtokebpeplopjhaaDoorW.PrintLast

/-- An object that is heard. -/
structure Co where
  cm : Cm
  maps : List Mp
  heard : Bool
  at_ : Int
  late : Bool
  holds : Bool
  by_ : Nat → Int
  n : Int
abbrev Co.cells (x : Co) (vm : Value) : List Value := [.bool x.cm.on, .int .u16 x.cm.id, .int .u8 x.cm.kind, .int .i64 x.cm.inh, .int .i64 x.cm.ev, .int .u8 x.cm.st, vm, .bool x.heard, .int .i64 x.at_, .bool x.late, .bool x.holds, .int .u8 (x.by_ 0), .int .u8 (x.by_ 1), .int .u8 (x.by_ 2), .int .u8 (x.by_ 3), .int .u8 (x.by_ 4), .int .u8 (x.by_ 5), .int .u8 (x.by_ 6), .int .u8 (x.by_ 7), .int .i64 x.n]
def Co.watched (x : Co) : Bool := x.cm.on && (decide (0 < x.cm.ev) && (x.heard && !x.late))
/-- An object as Set and Start leave it. -/
def setCo (c : Cm) (l : List Mp) : Co := ⟨c, l, false, 0, false, false, fun _ => 0, 0⟩
def zCo : Co := setCo zCm []
set_option maxRecDepth 100000 in
set_option maxHeartbeats 1000000 in
theorem ctime_any (n : Int) (w : World) : Calls Tryd.prog 99 #[.int .i64 n] w fun e w' => e = .returned (.bool (decide (timeC n))) ∧ w' = w := by
  by_cases h0 : 0 ≤ n
  · by_cases h1 : n ≤ 1099511627776
    · rw [decide_eq_true (show timeC n from ⟨h0, h1⟩)]
      go_enter Tryd.func99, Tryd.ntmps99
      go_wp2
      go_ret
      exact ⟨rfl, rfl⟩
    · rw [decide_eq_false (show ¬ timeC n from fun h => h1 h.2)]
      have d1 : decide (n ≤ 1099511627776) = false := decide_eq_false h1
      go_enter Tryd.func99, Tryd.ntmps99
      go_wp2
      go_ret
      exact ⟨rfl, rfl⟩
  · rw [decide_eq_false (show ¬ timeC n from fun h => h0 h.1)]
    have d1 : decide (0 ≤ n) = false := decide_eq_false h0
    go_enter Tryd.func99, Tryd.ntmps99
    go_wp2
    go_ret
    exact ⟨rfl, rfl⟩
set_option maxRecDepth 100000 in
set_option maxHeartbeats 2000000 in
theorem cmay_any (c : Cm) (w : World) : Calls Tryd.prog 98 #[c.v] w fun e w' => e = .returned (.bool (decide (cmOk c))) ∧ Below w.heap.size w w' := by
  have hb0 : ∀ o, Below w.heap.size w (w.alloc o) := fun o => below_alloc (Below.refl _ _) _
  obtain ⟨on, id, kind, inh, ev, st⟩ := c
  by_cases h1 : id ≤ 2047
  · by_cases h2 : kind ≤ 240
    · have d2 := decide_eq_true h2
      by_cases h4 : timeC inh
      · have t4 := decide_eq_true h4
        by_cases h5 : timeC ev
        · have t5 := decide_eq_true h5
          by_cases h6 : st ≤ 240
          · rw [decide_eq_true (show cmOk ⟨on, id, kind, inh, ev, st⟩ from ⟨h1, (.inl h2), h4, h5, h6⟩)]
            clear h4 h5
            go_enter Tryd.func98, Tryd.ntmps98
            go_wp2_with (go_at_call 99; refine (ctime_any _ _).mono ?_; rintro e w' ⟨rfl, hw⟩; have hw := hw.symm; subst hw)
            go_ret
            exact ⟨rfl, hb0 _⟩
          · rw [decide_eq_false (show ¬ cmOk ⟨on, id, kind, inh, ev, st⟩ from fun h => h6 h.2.2.2.2)]
            have d6 := decide_eq_false h6
            clear h4 h5
            go_enter Tryd.func98, Tryd.ntmps98
            go_wp2_with (go_at_call 99; refine (ctime_any _ _).mono ?_; rintro e w' ⟨rfl, hw⟩; have hw := hw.symm; subst hw)
            go_ret
            exact ⟨rfl, hb0 _⟩
        · have t5 := decide_eq_false h5
          rw [decide_eq_false (show ¬ cmOk ⟨on, id, kind, inh, ev, st⟩ from fun h => h5 h.2.2.2.1)]
          clear h4 h5
          go_enter Tryd.func98, Tryd.ntmps98
          go_wp2_with (go_at_call 99; refine (ctime_any _ _).mono ?_; rintro e w' ⟨rfl, hw⟩; have hw := hw.symm; subst hw)
          go_ret
          exact ⟨rfl, hb0 _⟩
      · have t4 := decide_eq_false h4
        have t5 := t4
        rw [decide_eq_false (show ¬ cmOk ⟨on, id, kind, inh, ev, st⟩ from fun h => h4 h.2.2.1)]
        clear h4
        go_enter Tryd.func98, Tryd.ntmps98
        go_wp2_with (go_at_call 99; refine (ctime_any _ _).mono ?_; rintro e w' ⟨rfl, hw⟩; have hw := hw.symm; subst hw)
        go_ret
        exact ⟨rfl, hb0 _⟩
    · have d2 := decide_eq_false h2
      by_cases h3 : 254 ≤ kind
      · have d3 := decide_eq_true h3
        by_cases h4 : timeC inh
        · have t4 := decide_eq_true h4
          by_cases h5 : timeC ev
          · have t5 := decide_eq_true h5
            by_cases h6 : st ≤ 240
            · rw [decide_eq_true (show cmOk ⟨on, id, kind, inh, ev, st⟩ from ⟨h1, (.inr h3), h4, h5, h6⟩)]
              clear h4 h5
              go_enter Tryd.func98, Tryd.ntmps98
              go_wp2_with (go_at_call 99; refine (ctime_any _ _).mono ?_; rintro e w' ⟨rfl, hw⟩; have hw := hw.symm; subst hw)
              go_ret
              exact ⟨rfl, hb0 _⟩
            · rw [decide_eq_false (show ¬ cmOk ⟨on, id, kind, inh, ev, st⟩ from fun h => h6 h.2.2.2.2)]
              have d6 := decide_eq_false h6
              clear h4 h5
              go_enter Tryd.func98, Tryd.ntmps98
              go_wp2_with (go_at_call 99; refine (ctime_any _ _).mono ?_; rintro e w' ⟨rfl, hw⟩; have hw := hw.symm; subst hw)
              go_ret
              exact ⟨rfl, hb0 _⟩
          · have t5 := decide_eq_false h5
            rw [decide_eq_false (show ¬ cmOk ⟨on, id, kind, inh, ev, st⟩ from fun h => h5 h.2.2.2.1)]
            clear h4 h5
            go_enter Tryd.func98, Tryd.ntmps98
            go_wp2_with (go_at_call 99; refine (ctime_any _ _).mono ?_; rintro e w' ⟨rfl, hw⟩; have hw := hw.symm; subst hw)
            go_ret
            exact ⟨rfl, hb0 _⟩
        · have t4 := decide_eq_false h4
          have t5 := t4
          rw [decide_eq_false (show ¬ cmOk ⟨on, id, kind, inh, ev, st⟩ from fun h => h4 h.2.2.1)]
          clear h4
          go_enter Tryd.func98, Tryd.ntmps98
          go_wp2_with (go_at_call 99; refine (ctime_any _ _).mono ?_; rintro e w' ⟨rfl, hw⟩; have hw := hw.symm; subst hw)
          go_ret
          exact ⟨rfl, hb0 _⟩
      · have d3 := decide_eq_false h3
        rw [decide_eq_false (show ¬ cmOk ⟨on, id, kind, inh, ev, st⟩ from fun h => by rcases h.2.1 with h | h; exact h2 h; exact h3 h)]
        go_enter Tryd.func98, Tryd.ntmps98
        go_wp2_with (go_at_call 99; refine (ctime_any _ _).mono ?_; rintro e w' ⟨rfl, hw⟩; have hw := hw.symm; subst hw)
        go_ret
        exact ⟨rfl, hb0 _⟩
  · have d1 := decide_eq_false h1
    rw [decide_eq_false (show ¬ cmOk ⟨on, id, kind, inh, ev, st⟩ from fun h => h1 h.1)]
    go_enter Tryd.func98, Tryd.ntmps98
    go_wp2_with (go_at_call 99; refine (ctime_any _ _).mono ?_; rintro e w' ⟨rfl, hw⟩; have hw := hw.symm; subst hw)
    go_ret
    exact ⟨rfl, hb0 _⟩
/-- A consumer. -/
structure CnAt (w : World) (g : Nat) (vd : Value) (os : Nat → Co) (vm : Nat → Value) (goes : Bool) : Prop where
  d0 : w.cell? ⟨g, 0, none⟩ = some vd
  ob : ∀ i, i < 8 → ∀ (j : Nat) u, ((os i).cells (vm i))[j]? = some u → w.cell? ⟨g, 1 + i * 20 + j, none⟩ = some u
  gs : w.cell? ⟨g, 161, none⟩ = some (.bool goes)
  fz : ∀ k, w.frozen? ⟨g, k, none⟩ = false
  ms : ∀ i, i < 8 → MsN g w (vm i) (os i).maps
theorem CnAt.lt {w : World} {g : Nat} {vd : Value} {os : Nat → Co} {vm : Nat → Value} {goes : Bool} (h : CnAt w g vd os vm goes) : g < w.heap.size := World.block_lt_of_cell? w _ h.d0
theorem CnAt.below {w w' : World} {g : Nat} {vd : Value} {os : Nat → Co} {vm : Nat → Value} {goes : Bool} (h : CnAt w g vd os vm goes) (hb : Below w.heap.size w w') : CnAt w' g vd os vm goes :=
  ⟨pw_cell_below hb h.d0, fun i hi j u hu => pw_cell_below hb (h.ob i hi j u hu), pw_cell_below hb h.gs, fun k => (World.frozen?_of_block (hb.block g h.lt)).trans (h.fz k), fun i hi => (h.ms i hi).below hb⟩
/-- Some cells of an object are written. -/
theorem CnAt.store {w : World} {g : Nat} {vd : Value} {os : Nat → Co} {vm : Nat → Value} {goes : Bool} (h : CnAt w g vd os vm goes) {i t : Nat} (hi : i < 8) (vs : List Value) (ht : t + vs.length ≤ 20) (x' : Co) (vm' : Value)
    (hc : ∀ (j : Nat) u, (x'.cells vm')[j]? = some u → (t ≤ j ∧ j < t + vs.length ∧ vs[j - t]? = some u) ∨ ((j < t ∨ t + vs.length ≤ j) ∧ ((os i).cells (vm i))[j]? = some u)) (hm : MsN g w vm' x'.maps) :
    CnAt (w.setCells g (1 + i * 20 + t) vs) g vd (upd os i x') (upd vm i vm') goes := by
  have hf : Fr (fun k => k = g) w (w.setCells g (1 + i * 20 + t) vs) := fr_cells vs _ w
  have hsome : ∀ j, j < vs.length → (w.cell? ⟨g, 1 + i * 20 + t + j, none⟩).isSome = true := by
    intro j hj
    have hl : ((os i).cells (vm i)).length = 20 := rfl
    rw [show 1 + i * 20 + t + j = 1 + i * 20 + (t + j) by omega, h.ob i hi (t + j) _ (List.getElem?_eq_getElem (by rw [hl]; omega))]
    rfl
  have out : ∀ k, (k < 1 + i * 20 + t ∨ 1 + i * 20 + t + vs.length ≤ k) → (w.setCells g (1 + i * 20 + t) vs).cell? ⟨g, k, none⟩ = w.cell? ⟨g, k, none⟩ := fun k hk => World.cell?_setCells_out g vs _ w _ (fun _ _ => hk)
  refine ⟨(out 0 (by omega)).trans h.d0, fun k hk j u hu => ?_, (out 161 (by omega)).trans h.gs, fun k => (World.frozen?_setCells g vs _ w _).trans (h.fz k), fun k hk => ?_⟩
  · by_cases e : k = i
    · subst e
      rw [upd_same, upd_same] at hu
      have hj : j < 20 := (List.getElem?_eq_some_iff.1 hu).1
      rcases hc j u hu with ⟨h1, h2, h3⟩ | ⟨h1, h2⟩
      · obtain ⟨h4, h5⟩ := List.getElem?_eq_some_iff.1 h3
        have := World.cell?_setCells_in g vs (1 + k * 20 + t) w hsome (j - t) h4
        rw [h5] at this
        rw [show 1 + k * 20 + j = 1 + k * 20 + t + (j - t) by omega]
        exact this
      · exact (out _ (by omega)).trans (h.ob k hk j u h2)
    · rw [upd_ne _ _ e, upd_ne _ _ e] at hu
      have hj : j < 20 := (List.getElem?_eq_some_iff.1 hu).1
      exact (out _ (by omega)).trans (h.ob k hk j u hu)
  · by_cases e : k = i
    · subst e
      rw [upd_same, upd_same]
      exact hm.set hf
    · rw [upd_ne _ _ e, upd_ne _ _ e]
      exact (h.ms k hk).set hf
theorem CnAt.setGoes {w : World} {g : Nat} {vd : Value} {os : Nat → Co} {vm : Nat → Value} {goes : Bool} (h : CnAt w g vd os vm goes) (b : Bool) : CnAt (w.setCell ⟨g, 161, none⟩ (.bool b)) g vd os vm b := by
  have hf : Fr (fun k => k = g) w (w.setCell ⟨g, 161, none⟩ (.bool b)) := Fr.setCell (M := fun k => k = g) w ⟨g, 161, none⟩ _ (.inl rfl)
  have out : ∀ k, k ≠ 161 → (w.setCell ⟨g, 161, none⟩ (.bool b)).cell? ⟨g, k, none⟩ = w.cell? ⟨g, k, none⟩ := fun k hk => World.cell?_setCell_other _ _ _ _ (by intro e; injection e with _ e _; exact hk (Eq.symm e))
  exact ⟨(out 0 (by omega)).trans h.d0, fun i hi j u hu => (out _ (by have hj : j < 20 := (List.getElem?_eq_some_iff.1 hu).1; omega)).trans (h.ob i hi j u hu), World.cell?_setCell_same _ _ _ h.gs, fun k => (World.frozen?_setCell ..).trans (h.fz k), fun i hi => (h.ms i hi).set hf⟩
set_option maxRecDepth 100000 in
set_option maxHeartbeats 1000000 in
theorem cwatched_any (x : Co) (vm : Value) (g o : Nat) (w : World) (h : ∀ (j : Nat) u, (x.cells vm)[j]? = some u → w.cell? ⟨g, o + j, none⟩ = some u) :
    Calls Tryd.prog 102 #[.pointer (some ⟨g, o, none⟩)] w fun e w' => e = .returned (.bool x.watched) ∧ w' = w := by
  have y0 : w.cell? ⟨g, o, none⟩ = some (.bool x.cm.on) := h 0 _ rfl
  have y4 := h 4 _ rfl
  have y7 := h 7 _ rfl
  have y9 := h 9 _ rfl
  clear h
  obtain ⟨⟨on, id, kind, inh, ev, st⟩, maps, heard, at_, late, holds, by_, n⟩ := x
  simp only at y0 y4 y7 y9
  unfold Co.watched
  simp only
  cases on
  · go_enter Tryd.func102, Tryd.ntmps102
    go_wp2
    go_ret
    exact ⟨rfl, rfl⟩
  · by_cases he : 0 < ev
    · have he2 := decide_eq_true he
      rw [he2]
      cases heard
      · go_enter Tryd.func102, Tryd.ntmps102
        go_wp2
        go_ret
        exact ⟨rfl, rfl⟩
      · cases late
        · go_enter Tryd.func102, Tryd.ntmps102
          go_wp2
          go_ret
          exact ⟨rfl, rfl⟩
        · go_enter Tryd.func102, Tryd.ntmps102
          go_wp2
          go_ret
          exact ⟨rfl, rfl⟩
    · have he2 := decide_eq_false he
      rw [he2]
      go_enter Tryd.func102, Tryd.ntmps102
      go_wp2
      go_ret
      exact ⟨rfl, rfl⟩
set_option maxRecDepth 100000 in
theorem zero_cn : ∀ i, i < 8 → (Tryd.zeroCells168.toList.drop (1 + i * 20)).take 20 = zCo.cells (.slice none 0 0)
  | 0, _ => by kernel_rfl
  | 1, _ => by kernel_rfl
  | 2, _ => by kernel_rfl
  | 3, _ => by kernel_rfl
  | 4, _ => by kernel_rfl
  | 5, _ => by kernel_rfl
  | 6, _ => by kernel_rfl
  | 7, _ => by kernel_rfl
  | n + 8, h => by omega
theorem zero_cgoes : Tryd.zeroCells168[161]? = some (.bool false) := by kernel_rfl
theorem zero_csize : Tryd.zeroCells168.size = 162 := by kernel_rfl
theorem cn_zero (w : World) (g : Nat) (v : Value) (h : w.heap[g]? = some (.cells (Tryd.zeroCells168.setIfInBounds 0 v) 168 (0, 0))) : CnAt w g v (fun _ => zCo) (fun _ => .slice none 0 0) false := by
  have hc := Go.Proofs.YtokebpeplopjhaaDoorW.PrintWords.blk_cell h
  refine ⟨?_, fun i hi j u hu => ?_, ?_, fun k => Go.Proofs.YtokebpeplopjhaaDoorW.PrintWords.blk_frozen h k, fun i hi => MsN.nil g w⟩
  · rw [hc 0, Array.getElem?_setIfInBounds_self_of_lt (by rw [zero_csize]; omega)]
  · have hj : j < 20 := (List.getElem?_eq_some_iff.1 hu).1
    rw [hc (1 + i * 20 + j), Array.getElem?_setIfInBounds_ne (by omega)]
    rw [← zero_cn i hi, List.getElem?_take, if_pos hj, List.getElem?_drop] at hu
    rw [← Array.getElem?_toList]
    exact hu
  · rw [hc 161, Array.getElem?_setIfInBounds_ne (by omega)]
    exact zero_cgoes
set_option maxRecDepth 100000 in
set_option maxHeartbeats 1000000 in
theorem cnew_any (gd : Nat) (w : World) : Calls Tryd.prog 49 #[.pointer (some ⟨gd, 0, none⟩)] w fun e w' => ∃ g, e = .returned (.pointer (some ⟨g, 0, none⟩)) ∧ w.heap.size ≤ g ∧ CnAt w' g (.pointer (some ⟨gd, 0, none⟩)) (fun _ => zCo) (fun _ => .slice none 0 0) false ∧ Below w.heap.size w w' := by
  go_enter Tryd.func49, Tryd.ntmps49
  go_wp2
  go_ret
  exact ⟨_, rfl, Nat.le_refl _, cn_zero _ _ _ (blk_new w _), below_alloc (Below.refl _ _) _⟩
end Go.Proofs.YtokebpeplopjhaaDoor.Mp
