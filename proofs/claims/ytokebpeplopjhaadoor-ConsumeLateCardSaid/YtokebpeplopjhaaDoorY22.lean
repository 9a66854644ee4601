/- Consumers: Due. The dictionary of law 14, plainly: one entry, of at most 9; a consumer's object over it. One object of a consumer alone is on, plainly. The law's place, mapping, producer; is it the frame? The law's place, mapping, entry, frame; is it the one Result? A consumer of one object over the dictionary of law 14, in memory: Hear, Tick, Due. ProduceInhibits, plainly: what stays from moment to moment. -/
import Derived.Test.YtokebpeplopjhaaDoorY21
import Derived.Test.YtokebpeplopjhaaDoorY18
import Derived.Test.YtokebpeplopjhaaDoorY11
import Derived.Test.YtokebpeplopjhaaDoorY19
import Derived.Test.YtokebpeplopjhaaDoorY13
import Derived.Test.YtokebpeplopjhaaDoorY12
import Derived.DeepKeys
import Derived.Test.YtokebpeplopjhaaDoorY15
namespace Go.Proofs.YtokebpeplopjhaaDoor.Mp
open Go.RowKit Go.Shelf Go.Proofs.YtokebpeplopjhaaDoor.Rng Go.Proofs.YtokebpeplopjhaaDoorW.PrintWords Go.Proofs.YtokebpeplopjhaaDoorW.PrintMore Go.Proofs.YtokebpeplopjhaaDoorW.PrintLast

def dueLC (os : Nat → Co) : Nat → List Int
  | 0 => []
  | i + 1 => dueLC os i ++ dueO (os i)
theorem dueLC_len (os : Nat → Co) : ∀ n, (dueLC os n).length ≤ n
  | 0 => Nat.le_refl _
  | n + 1 => by
    have := dueLC_len os n
    unfold dueLC
    rw [List.length_append]
    unfold dueO
    split <;> simp <;> omega
theorem dueO_off {x : Co} (h : x.cm.on = false) : dueO x = [] := by
  unfold dueO Co.watched
  simp [h]
theorem due1_enter : ∀ args X, (callFunc 105 args).run Tryd.prog X = .ok (.enter 105 args) X := enter_of Tryd.func105 (by kernel_rfl) (by kernel_rfl)
def DueS (w : World) (g Bl base : Nat) (vd : Value) (os : Nat → Co) (vm : Nat → Value) (i : Nat) (X : World) : Prop :=
  CnAt X g vd os vm true ∧ (∃ v, X.cell? ⟨Bl, 0, none⟩ = some v ∧ X.frozen? ⟨Bl, 0, none⟩ = false ∧ Kd.R kN 2 X base (fun _ => True) v (dueLC os i)) ∧ Fr (fun k => w.heap.size ≤ k) w X ∧ base ≤ X.heap.size
set_option maxRecDepth 100000 in
theorem ceach_due (g : Nat) (vd : Value) (os : Nat → Co) (vm : Nat → Value) (w w1 : World) (h : CnAt w g vd os vm true) (hb1 : Below w.heap.size w w1) (hs1 : w1.heap.size = w.heap.size + 1) (hc : w1.cell? ⟨w.heap.size, 0, none⟩ = some (.slice none 0 0)) (hf : w1.frozen? ⟨w.heap.size, 0, none⟩ = false) :
    Calls Tryd.prog 100 #[.pointer (some ⟨g, 0, none⟩), .func (Fn.func 105) #[] #[.pointer (some ⟨w.heap.size, 0, none⟩)]] w1 (EachSaid (DueS w g w.heap.size w1.heap.size vd os vm) (fun _ => Option.none)) := by
  have h1 := h.below hb1
  have ht : ∀ n, toldL (fun _ => Option.none) n = [] := fun n => told_none (fun _ _ => rfl)
  refine ceach_any g _ _ (DueS w g w.heap.size w1.heap.size vd os vm) (fun i => (os i).cm.on) (fun _ => Option.none) w1 due1_enter ?_ h1.gs ?_ ?_ ?_ ?_ ?_
  · exact ⟨h1, ⟨_, hc, hf, Kd.R_nil _ _ _ _ _⟩, Fr.of_below hb1, Nat.le_refl _⟩
  · intro i X hi hX
    exact hX.1.ob i hi 0 _ rfl
  · intro i X hi ho hX
    exact ⟨hX.1, by
      have : dueLC os (i + 1) = dueLC os i := by
        show dueLC os i ++ dueO (os i) = _
        rw [dueO_off ho, List.append_nil]
      rw [this]
      exact hX.2.1, hX.2.2⟩
  · intro i hi ho
    rfl
  · intro i X hi ho hX
    obtain ⟨v, hv, hfz, hR⟩ := hX.2.1
    refine (cdue1_any g w.heap.size w1.heap.size i vd os vm true v (dueLC os i) X hX.1 hi hv hfz hR (by omega) hX.2.2.2 (by have := dueLC_len os i; omega)).mono ?_
    rintro e X' ⟨rfl, hv', hf'⟩
    refine ⟨⟨0, .inr ⟨rfl, rfl⟩⟩, ⟨?_, hv', ?_, Nat.le_trans hX.2.2.2 hf'.size⟩, hf'.size, .inl (ht i)⟩
    · exact hX.1.grow h (fun _ _ => rfl) (hf'.mono (fun k e => by rcases e with e | e; have : k = w.heap.size := e; show w.heap.size ≤ k; omega; show w.heap.size ≤ k; omega))
    · exact hX.2.2.1.trans (hf'.mono (fun k e => by rcases e with e | e; have : k = w.heap.size := e; show w.heap.size ≤ k; omega; show w.heap.size ≤ k; omega))
  · intro i X X' c hc _ _ _ _
    cases hc
set_option maxRecDepth 100000 in
set_option maxHeartbeats 2000000 in
theorem cDue_any (g : Nat) (vd : Value) (os : Nat → Co) (vm : Nat → Value) (w : World) (h : CnAt w g vd os vm true) :
    Calls Tryd.prog 58 #[.pointer (some ⟨g, 0, none⟩)] w fun e w' => e = .returned (.tuple #[.int .i64 (dueR (dueLC os 8)).1, .bool (dueR (dueLC os 8)).2]) ∧ CnAt w' g vd os vm true ∧ Below w.heap.size w w' := by
  have hb1 : Below w.heap.size w (w.alloc (.cells #[.slice none 0 0] 174)) := below_alloc (Below.refl _ _) _
  have hn := blk_new w (.cells #[.slice none 0 0] 174)
  have HE := Aside0.mk (ceach_due g vd os vm w _ h hb1 (by simp) (Go.Proofs.YtokebpeplopjhaaDoorW.PrintWords.blk_cell hn 0) (Go.Proofs.YtokebpeplopjhaaDoorW.PrintWords.blk_frozen hn 0))
  have HLN := Aside0.mk (dueLC_len os 8)
  have hmf : ∀ (fn : Fn) (first cap : Array Value) (w : World), (Instr.makeFunc fn first cap).run Tryd.prog w = .ok (.func fn first cap) w := fun _ _ _ _ => rfl
  obtain ⟨l, hl⟩ : ∃ l, dueLC os 8 = l := ⟨_, rfl⟩
  have HL := Aside0.mk hl
  rw [hl] at HLN ⊢
  clear h hb1 hn hl
  cases l with
  | nil =>
    go_enter Tryd.func58, Tryd.ntmps58
    go_wp2_with (go_at_call 100; go_loud (refine HE.out.mono ?_; rintro e w2 ⟨A, c, rfl, -, hS⟩; obtain ⟨v2, y0, -, hR⟩ := hS.2.1; obtain ⟨A2, c2, hv2, hl2, hC⟩ := Kd.R_reads hR; subst hv2; rw [HL.out] at y0 hC; have HS := Aside0.mk hS; have HC := Aside0.mk hC; clear hS hR hC hl2))
    go_ret2
    exact ⟨rfl, HS.out.1, HS.out.2.2.1.below (fun k hk => ⟨hk, Nat.not_le.2 hk⟩)⟩
  | cons x l =>
    obtain ⟨n, hn⟩ : ∃ n, (x :: l).length = n := ⟨_, rfl⟩
    have hn0 : 0 < n := by rw [← hn]; simp
    have HN := Aside0.mk (And.intro hn (And.intro hn0 (show n ≤ 1000 by have := HLN.out; omega)))
    have hnz : ¬ (n : Int) = 0 := by omega
    go_enter Tryd.func58, Tryd.ntmps58
    go_wp2_with (first
      | (go_at_call 100; go_loud (refine HE.out.mono ?_; rintro e w2 ⟨A, c, rfl, -, hS⟩; obtain ⟨v2, y0, -, hR⟩ := hS.2.1; obtain ⟨A2, c2, hv2, hl2, hC⟩ := Kd.R_reads hR; subst hv2; rw [HL.out, HN.out.1] at y0 hC; have HS := Aside0.mk hS; have HC := Aside0.mk hC; clear hS hR hC hl2))
      | (go_at_call 106; refine (smin_any A2 n c2 (x :: l) _ HC.out HN.out.1 HN.out.2.1 HN.out.2.2).mono ?_; rintro e w3 ⟨rfl, hw⟩; subst hw))
    go_ret2
    exact ⟨rfl, HS.out.1, HS.out.2.2.1.below (fun k hk => ⟨hk, Nat.not_le.2 hk⟩)⟩
end Go.Proofs.YtokebpeplopjhaaDoor.Mp
namespace Go.Proofs.YtokebpeplopjhaaDoor.Mp
open Go.RowKit Go.Proofs.YtokebpeplopjhaaDoor.Num

def hiEn : En := ⟨24576, 1, ByteArray.empty, 5, 7, [], [], [9], 0, 0⟩
def hiE : List En := [hiEn]
def d9 : DD := (newC hiE DD.none).2
theorem hiE_ok : ∀ e ∈ hiE, e.Wf ∧ Byt e.df := by
  intro e he
  simp only [hiE, List.mem_cons, List.not_mem_nil, or_false] at he
  subst he
  exact ⟨⟨by decide, by decide, by decide, by decide, by decide, by decide, by decide⟩, byt_of _ rfl⟩
theorem d9_good : Good d9 := good_new Good.none hiE_ok
theorem new9 : newR hiE = (0, some d9) := by
  have h : (newC hiE DD.none).1 = 0 := by decide +kernel
  unfold newR
  rw [if_neg (by decide), if_pos h, h]
  rfl
/-- The dictionary holds the value b, at most 9. -/
structure OneH (d : DD) (b : Int) : Prop where
  good : Good d
  it : ∃ x : It, d.D 24576 1 = some x ∧ x.ty = 5 ∧ x.rt = 7 ∧ x.lo = [] ∧ x.hi = [9] ∧ x.val = [b]
theorem OneH.find {d : DD} {b : Int} (h : OneH d b) : ∃ x : It, d.D 24576 1 = some x ∧ findC (some d) 24576 1 = (x, 0) ∧ x.ty = 5 ∧ x.rt = 7 ∧ x.lo = [] ∧ x.hi = [9] ∧ x.val = [b] := by
  obtain ⟨x, hx, h1⟩ := h.it
  exact ⟨x, hx, by simp [findC, DD.at, hx], h1⟩
theorem OneH.byt {d : DD} {b : Int} (h : OneH d b) : 0 ≤ b ∧ b < 256 := by
  obtain ⟨x, hx, -, -, -, -, hv⟩ := h.it
  have := (h.good.it _ _ x hx).2.2.2.2 b (by rw [hv]; simp)
  exact this
theorem new9_it : (d9.D 24576 1).isSome = true ∧ ((d9.D 24576 1).getD zIt).ty = 5 ∧ ((d9.D 24576 1).getD zIt).rt = 7 ∧ ((d9.D 24576 1).getD zIt).lo = [] ∧ ((d9.D 24576 1).getD zIt).hi = [9] ∧ ((d9.D 24576 1).getD zIt).val = [0] := by decide +kernel
theorem oneH_d9 : OneH d9 0 := by
  refine ⟨d9_good, ?_⟩
  have h := new9_it
  cases hd : d9.D 24576 1 with
  | none => rw [hd] at h; exact absurd h.1 (by decide)
  | some x =>
    rw [hd] at h
    exact ⟨x, rfl, h.2⟩
theorem OneH.check {d : DD} {b : Int} (h : OneH d b) : checkC (some d) oneM false = 0 := by
  obtain ⟨x, -, hf, ht, hr, -⟩ := h.find
  have hone : oneC (some d) false ⟨24576, 1, 8⟩ = 0 := by
    unfold oneC
    rw [if_neg (by decide : ¬ gapC ⟨24576, 1, 8⟩)]
    simp only [hf, ht, hr]
    decide
  unfold checkC
  rw [if_neg (by decide)]
  show (if oneC (some d) false ⟨24576, 1, 8⟩ ≠ 0 then oneC (some d) false ⟨24576, 1, 8⟩ else if (64 : Int) - 8 < 0 then 0x06040042 else checkL (some d) false [] (64 - 8)) = 0
  rw [hone]
  rfl
theorem plain5 (b : Int) : plainC 5 [b] = 0 := by
  unfold plainC
  simp [knd, siz]
theorem cmp5 (a b : Int) : cmpC 5 [a] [b] = (cmp3 a b, true) := by
  unfold cmpC
  rw [plain5, plain5]
  simp [knd, num]
theorem chk_hi (b : Int) : chkC 5 [b] [] [9] = if b ≤ 9 then 0 else 0x06090031 := by
  unfold chkC
  rw [plain5, if_neg (by simp), if_neg (by rw [cmp5]; simp), if_neg (c := bndC 5 [] ∧ _) (by simp [bndC])]
  rw [cmp5]
  by_cases h : b ≤ 9
  · rw [if_pos h, if_neg (by
      rintro ⟨-, h2⟩
      simp only [cmp3] at h2
      split at h2
      · omega
      · split at h2 <;> omega)]
  · rw [if_neg h, if_pos ⟨⟨by simp, by rw [cmp5]⟩, by
      simp only [cmp3]
      rw [if_neg (by omega), if_pos (by omega)]
      decide⟩]
theorem OneH.may {d : DD} {b : Int} (h : OneH d b) (b' : Int) : (mayW (some d) 24576 1 [b']).2 = if b' ≤ 9 then 0 else 0x06090031 := by
  obtain ⟨x, -, hf, ht, hr, hl, hh, -⟩ := h.find
  unfold mayW
  simp only [hf]
  rw [if_neg (by simp), if_neg (by rw [hr]; decide), ht, hl, hh, chk_hi]
  by_cases hb : b' ≤ 9
  · rw [if_pos hb]
    simp
  · rw [if_neg hb]
    simp
theorem OneH.write {d : DD} {b : Int} (h : OneH d b) {b' : Int} (hb : 0 ≤ b' ∧ b' ≤ 9) : OneH (wrtC d 24576 1 [b']) b' := by
  obtain ⟨x, hx, hf, ht, hr, hl, hh, -⟩ := h.find
  have hg := h.good.wrt 24576 1 [b'] (by intro y hy; simp at hy; subst hy; omega) (fun x _ h => chk_plain h)
  refine ⟨hg, ?_⟩
  obtain ⟨-, h1, h2, -⟩ := h.good.it _ _ x hx
  unfold wrtC
  rw [if_pos (by rw [h.may b', if_pos hb.2]), hx]
  refine ⟨{ x with val := [b'] }, ?_, ht, hr, hl, hh, rfl⟩
  simp [DD.put, h1, h2]
theorem OneH.unpack {d : DD} {b : Int} (h : OneH d b) {y : Int} (hy : 0 ≤ y ∧ y < 256) : unpackC (some d) oneM [y] = if y ≤ 9 then ([((24576, 1), [y])], 0) else ([], 0x06090031) := by
  have ho : outV [y] 0 8 = [y] := pkL_bits (v := [y]) (by intro z hz; simp at hz; subst hz; exact hy)
  have hm := h.may y
  unfold unpackC
  rw [if_neg (by rw [h.check]; simp), if_neg (show ¬ ([y] : List Int).length < sizeC oneM by show ¬ 1 < 1; omega)]
  show (if gapC ⟨24576, 1, 8⟩ then unpA (some d) [y] [] 8 [] else if (mayW (some d) 24576 1 (outV [y] 0 8)).2 ≠ 0 then ([], (mayW (some d) 24576 1 (outV [y] 0 8)).2) else ([((24576, 1), outV [y] 0 8)], 0)) = _
  rw [if_neg (by decide : ¬ gapC ⟨24576, 1, 8⟩), ho]
  by_cases hb : y ≤ 9
  · rw [if_pos hb] at hm ⊢
    rw [hm, if_neg (by simp)]
  · rw [if_neg hb] at hm ⊢
    rw [hm, if_pos (by simp)]
theorem OneH.hear {d : DD} {b : Int} (h : OneH d b) {y : Int} (hy : 0 ≤ y ∧ y ≤ 9) : (unpackC (some d) oneM [y]).2 = 0 ∧ OneH (writesC d (unpackC (some d) oneM [y]).1) y := by
  rw [h.unpack ⟨hy.1, by omega⟩, if_pos hy.2]
  exact ⟨rfl, h.write hy⟩
theorem OneH.deaf {d : DD} {b : Int} (h : OneH d b) {y : Int} (hy : 9 < y ∧ y < 256) : (unpackC (some d) oneM [y]).2 = 0x06090031 ∧ writesC d (unpackC (some d) oneM [y]).1 = d := by
  rw [h.unpack ⟨by omega, hy.2⟩, if_neg (by omega)]
  exact ⟨rfl, rfl⟩
end Go.Proofs.YtokebpeplopjhaaDoor.Mp
namespace Go.Proofs.YtokebpeplopjhaaDoor.Mp
open Go.RowKit Go.Proofs.YtokebpeplopjhaaDoor.Num

structure OneC (os : Nat → Co) (p : Nat) (x : Co) : Prop where
  lt : p < 8
  at0 : os p = x
  off : ∀ k, k < 8 → k ≠ p → (os k).cm.on = false ∧ (os k).maps = []
def coI (c : Cm) (hd : Bool) (a : Int) (lt : Bool) : Co := ⟨c, oneM, hd, a, lt, false, fun _ => 0, 0⟩
theorem OneC.upd {os : Nat → Co} {p : Nat} {x : Co} (h : OneC os p x) (y : Co) : OneC (upd os p y) p y :=
  ⟨h.lt, upd_same _ _ _, fun k hk hne => by rw [upd_ne _ _ hne]; exact h.off k hk hne⟩
theorem late_yes (c : Cm) (a n : Int) (hc : c.on = true ∧ 0 < c.ev) (hn : 0 ≤ n ∧ n ≤ 1000000) (ha : 0 ≤ a ∧ a ≤ 1000000) : lateC (coI c true a false) n = decide (c.ev ≤ n - a) := by
  have hw : wrap64 (n - a) = n - a := by
    unfold wrap64
    omega
  unfold lateC Co.watched
  show (c.on && (decide (0 < c.ev) && (true && !false)) && decide (c.ev ≤ wrap64 (n - a))) = _
  rw [hw]
  simp [hc]
theorem late_off (c : Cm) (a n : Int) (hd lt : Bool) (h : hd = false ∨ lt = true) : lateC (coI c hd a lt) n = false := by
  unfold lateC Co.watched
  show (c.on && (decide (0 < c.ev) && (hd && !lt)) && _) = _
  rcases h with rfl | rfl <;> simp
theorem late_o (c : Cm) (a n : Int) (hd lt : Bool) : lateO (coI c hd a lt) n = coI c hd a (lt || lateC (coI c hd a lt) n) := rfl
theorem hear_o (c : Cm) (a n : Int) (hd lt : Bool) : hearO (coI c hd a lt) n = coI c true n false := rfl
end Go.Proofs.YtokebpeplopjhaaDoor.Mp
namespace Go.Proofs.YtokebpeplopjhaaDoor.Mp
open Go.RowKit Go.Shelf Go.Proofs.YtokebpeplopjhaaDoor.Rng Go.Proofs.YtokebpeplopjhaaDoorW.PrintWords Go.Proofs.YtokebpeplopjhaaDoorW.PrintMore Go.Proofs.YtokebpeplopjhaaDoorW.PrintLast

theorem info_place : (Tryd.prog.info? 33).map (·.size) = some 2 := by kernel_rfl
set_option maxRecDepth 100000 in
set_option maxHeartbeats 1000000 in
theorem place_any (w : World) : Calls Tryd.prog 44 #[] w fun e w' => e = .returned (pl 24576 1) ∧ Below w.heap.size w w' := by
  have hn := blk_new w (.cells #[.int .u16 24576, .int .u8 1] 33)
  have hb : Below w.heap.size w (w.alloc (.cells #[.int .u16 24576, .int .u8 1] 33)) := below_alloc (Below.refl _ _) _
  go_enter Tryd.func44, Tryd.ntmps44
  go_wp2
  refine bodyPost_ret (v := pl 24576 1) (results_single rfl (.cell w.heap.size 33 #[.int .u16 24576, .int .u8 1] (0, 0) _ rfl hn Tryd.underlying33 rfl info_place .nil)) rfl ⟨rfl, hb⟩
theorem one_row {w : World} {g : Nat} (h : w.heap[g]? = some (.cells #[.int .u16 24576, .int .u8 1, .int .i64 8] 48 (0, 0))) : MsAt w (some ⟨g, 0, none⟩) oneM := by
  intro j m hj
  match j, hj with
  | 0, hj =>
    injection hj with hj
    subst hj
    exact ⟨_, rfl, (by rw [show ∀ n, (⟨g, 0, none⟩ : Addr).add n = ⟨g, n, none⟩ from fun _ => add_plain _ _]; exact blk_cell h 0), (by rw [show ∀ n, (⟨g, 0, none⟩ : Addr).add n = ⟨g, n, none⟩ from fun _ => add_plain _ _]; exact blk_cell h 1), (by rw [show ∀ n, (⟨g, 0, none⟩ : Addr).add n = ⟨g, n, none⟩ from fun _ => add_plain _ _]; exact blk_cell h 2)⟩
set_option maxRecDepth 100000 in
set_option maxHeartbeats 1000000 in
theorem lone_any (w : World) : Calls Tryd.prog 41 #[] w fun e w' => ∃ gl, e = .returned (.slice (some ⟨gl, 0, none⟩) 1 1) ∧ w.heap.size ≤ gl ∧ MsAt w' (some ⟨gl, 0, none⟩) oneM ∧ Below w.heap.size w w' := by
  go_enter Tryd.func41, Tryd.ntmps41
  go_wp2_with (go_at_call 44; go_loud (refine (place_any _).mono ?_; rintro e w1 ⟨rfl, hb1⟩; unfold pl; have HB1 := Aside0.mk hb1; clear hb1))
  go_ret
  exact ⟨w1.heap.size, rfl, HB1.out.size, one_row (blk_new w1 _), HB1.out.trans ((below_alloc (Below.refl _ _) _).mono HB1.out.size)⟩
set_option maxRecDepth 100000 in
theorem cells_8a : Tryd.prog.cellsOf 102 = 8 := by kernel_rfl
theorem cells_1a : Tryd.prog.cellsOf 5 = 1 := by kernel_rfl
theorem lits_u8 (n : Nat) {s : Int} (h2 : (Lit.int .u8 s).wf = true) : Tryd.prog.keyLits (n + 1) 5 [.int .u8 s] = some [.int .u8 s] := by
  unfold Program.keyLits
  rw [Tryd.underlying5]
  simp [h2]
theorem eight_lits (b : Int) (hb : (Lit.int .u8 b).wf = true) : Tryd.prog.keyLits 4 102 [.int .u8 b, .int .u8 0, .int .u8 0, .int .u8 0, .int .u8 0, .int .u8 0, .int .u8 0, .int .u8 0] = some [.int .u8 b, .int .u8 0, .int .u8 0, .int .u8 0, .int .u8 0, .int .u8 0, .int .u8 0, .int .u8 0] := by
  have e1 := lits_u8 2 hb
  have e2 := lits_u8 2 (s := 0) (by decide)
  unfold Program.keyLits
  rw [Tryd.underlying102]
  simp [cells_8a, cells_1a, List.range, List.range.loop, e1, e2]
set_option maxRecDepth 100000 in
theorem eight_eq (w : World) (b : Int) (hb : (Lit.int .u8 b).wf = true) : (Op.equalIn 9999 102 (.agg #[.int .u8 b, .int .u8 0, .int .u8 0, .int .u8 0, .int .u8 0, .int .u8 0, .int .u8 0, .int .u8 0]) (.agg #[.int .u8 b, .int .u8 0, .int .u8 0, .int .u8 0, .int .u8 0, .int .u8 0, .int .u8 0, .int .u8 0])).run Tryd.prog w = .ok true w := by
  obtain ⟨r, hr, hiff⟩ := run_equalIn_deep (P := Tryd.prog) 9996 3 102 (by kernel_rfl) w 4 4 (.agg #[.int .u8 b, .int .u8 0, .int .u8 0, .int .u8 0, .int .u8 0, .int .u8 0, .int .u8 0, .int .u8 0]) (.agg #[.int .u8 b, .int .u8 0, .int .u8 0, .int .u8 0, .int .u8 0, .int .u8 0, .int .u8 0, .int .u8 0]) _ _ (by simp [Value.formed, Tryd.underlying102, cells_8a]) (by simp [Value.formed, Tryd.underlying102, cells_8a]) (eight_lits b hb) (eight_lits b hb)
  rw [hiff.2 rfl] at hr
  exact hr
set_option maxRecDepth 100000 in
set_option maxHeartbeats 1000000 in
theorem is_cells (ad : Addr) (c : Nat) (b : Int) (hb : (Lit.int .u8 b).wf = true) (w : World) (h : ∀ (j : Nat) u, [Value.int .u16 385, .int .i64 1, .int .u8 b, .int .u8 0, .int .u8 0, .int .u8 0, .int .u8 0, .int .u8 0, .int .u8 0, .int .u8 0, .bool false][j]? = some u → w.cell? (ad.add j) = some u) : Calls Tryd.prog 46 #[.slice (some ad) 1 c, .int .u16 385, .int .u8 b] w fun e w' => e = .returned (.bool true) ∧ w = w' := by
  have f : ∀ (j : Nat) u, 0 < j → [Value.int .u16 385, .int .i64 1, .int .u8 b, .int .u8 0, .int .u8 0, .int .u8 0, .int .u8 0, .int .u8 0, .int .u8 0, .int .u8 0, .bool false][j]? = some u → w.cell? ⟨ad.block, ad.off + j, none⟩ = some u := fun j u hj hu => by
    have := h j u hu
    unfold Addr.add at this
    rw [if_neg (by omega)] at this
    exact this
  have y0 := h 0 _ rfl
  rw [show ad.add 0 = ad from rfl] at y0
  have y1 := f 1 _ (by omega) rfl
  have y2 := f 2 _ (by omega) rfl
  have y3 := f 3 _ (by omega) rfl
  have y4 := f 4 _ (by omega) rfl
  have y5 := f 5 _ (by omega) rfl
  have y6 := f 6 _ (by omega) rfl
  have y7 := f 7 _ (by omega) rfl
  have y8 := f 8 _ (by omega) rfl
  have y9 := f 9 _ (by omega) rfl
  have y10 := f 10 _ (by omega) rfl
  clear h f
  have he := fun W => eight_eq W b hb
  go_enter Tryd.func46, Tryd.ntmps46
  go_wp2
  go_ret
  exact ⟨rfl, rfl⟩
theorem wf_of_u8 {b : Int} (h : 0 ≤ b ∧ b < 256) : (Lit.int .u8 b).wf = true := by
  have h1 : IntKind.u8.min = 0 := rfl
  have h2 : IntKind.u8.max = 255 := rfl
  simp [Lit.wf]
  omega
/-- One frame: it is of this identifier and this byte. -/
theorem is_one (A : Option Addr) (c : Nat) (b : Int) (hb : 0 ≤ b ∧ b < 256) (w : World) (h : FrOne w A b) : Calls Tryd.prog 46 #[.slice A 1 c, .int .u16 385, .int .u8 b] w fun e w' => e = .returned (.bool true) ∧ w = w' := by
  obtain ⟨ad, hA, hc⟩ := h.2.2 (by omega)
  subst hA
  obtain ⟨cs, hcl, ⟨rfl, -, -⟩, hcell⟩ := hc 0 _ rfl
  exact is_cells ad c b (wf_of_u8 hb) w (fun j u hu => by
    have := hcell j u hu
    rwa [Nat.zero_mul, Nat.zero_add] at this)
theorem es_one {w : World} {g : Nat} (h : w.heap[g]? = some (.cells #[.int .u16 24576, .int .u8 1, .string ⟨#[]⟩, .int .u8 5, .int .u8 7, .slice none 0 0, .slice none 0 0, .slice none 0 0, .int .u8 0, .int .u8 0] 121 (0, 0))) : EsAt w (some ⟨g, 0, none⟩) oneE := by
  intro j e hj
  match j, hj with
  | 0, hj =>
    injection hj with hj
    subst hj
    exact ⟨_, _, _, _, rfl, es_cell h 0 _ rfl (fun i hi => match i, hi with | 0, _ => rfl | 1, _ => rfl | 2, _ => rfl | 3, _ => rfl | 4, _ => rfl | 5, _ => rfl | 6, _ => rfl | 7, _ => rfl | 8, _ => rfl | 9, _ => rfl | n + 10, h => absurd h (by omega)), ArgV.nil _, ArgV.nil _, ArgV.nil _⟩
def BeganSaid (B : Nat) (w : World) (e : Ending) (w' : World) : Prop := ∃ g gd bi bs wd, e = .returned (.tuple #[.pointer (some ⟨g, 0, none⟩), .pointer (some ⟨gd, 0, none⟩)]) ∧ PrAt w' g (.pointer (some ⟨gd, 0, none⟩)) (fun _ => zOb) (fun _ => .slice none 0 0) (fun _ => .slice none 0 0) false 0 ∧ DictB B wd gd bi bs d1 ∧ Below wd.heap.size wd w' ∧ wd.heap.size ≤ g ∧ w.heap.size ≤ wd.heap.size ∧ Below w.heap.size w w'
set_option maxRecDepth 100000 in
set_option maxHeartbeats 1000000 in
theorem began_any (B : Nat) (w : World) (ht : Tbl w) (hB : B ≤ w.heap.size) : Calls Tryd.prog 39 #[] w (BeganSaid B w) := by
  have HT := Aside0.mk ht
  have hrow := blk_new w (.cells #[.int .u16 24576, .int .u8 1, .string ⟨#[]⟩, .int .u8 5, .int .u8 7, .slice none 0 0, .slice none 0 0, .slice none 0 0, .int .u8 0, .int .u8 0] 121)
  have HE := Aside0.mk (es_one hrow)
  have HB0 := Aside0.mk (show Below w.heap.size w (w.alloc (.cells #[.int .u16 24576, .int .u8 1, .string ⟨#[]⟩, .int .u8 5, .int .u8 7, .slice none 0 0, .slice none 0 0, .slice none 0 0, .int .u8 0, .int .u8 0] 121)) from below_alloc (Below.refl _ _) _)
  clear hrow ht
  go_enter Tryd.func39, Tryd.ntmps39
  go_wp2_with (first
    | (go_at_call 19; go_loud (refine (new_any B oneE _ _ _ HE.out (fun e he => (oneE_ok e he).1) (HT.out.below HB0.out) (Nat.le_trans hB HB0.out.size) (by decide) _ new1).mono ?_; rintro e w2 ⟨hb2, gd, bi, bs, rfl, hg, hbi, hbs, hD⟩; have HB2 := Aside0.mk (HB0.out.trans (hb2.mono HB0.out.size)); have HD := Aside0.mk hD; clear hb2 hg hbi hbs hD))
    | (go_at_call 63; go_loud (refine (pnew_any gd w2).mono ?_; rintro e w3 ⟨g, rfl, hg, hP, hb3⟩; have HB3 := Aside0.mk hb3; have HP := Aside0.mk hP; have HG3 := Aside0.mk hg; clear hP hb3 hg)))
  go_ret2
  exact ⟨g, gd, bi, bs, w2, rfl, HP.out, HD.out, HB3.out, HG3.out, HB2.out.size, HB2.out.trans (HB3.out.mono HB2.out.size)⟩
end Go.Proofs.YtokebpeplopjhaaDoor.Mp
namespace Go.Proofs.YtokebpeplopjhaaDoor.Mp
open Go.RowKit Go.Shelf Go.Proofs.YtokebpeplopjhaaDoor.Rng Go.Proofs.YtokebpeplopjhaaDoorW.PrintWords Go.Proofs.YtokebpeplopjhaaDoorW.PrintMore Go.Proofs.YtokebpeplopjhaaDoorW.PrintLast

set_option maxRecDepth 100000 in
set_option maxHeartbeats 1000000 in
theorem place14_any (w : World) : Calls Tryd.prog 64 #[] w fun e w' => e = .returned (pl 24576 1) ∧ Below w.heap.size w w' := by
  have hn := blk_new w (.cells #[.int .u16 24576, .int .u8 1] 33)
  have hb : Below w.heap.size w (w.alloc (.cells #[.int .u16 24576, .int .u8 1] 33)) := below_alloc (Below.refl _ _) _
  go_enter Tryd.func64, Tryd.ntmps64
  go_wp2
  refine bodyPost_ret (v := pl 24576 1) (results_single rfl (.cell w.heap.size 33 #[.int .u16 24576, .int .u8 1] (0, 0) _ rfl hn Tryd.underlying33 rfl info_place .nil)) rfl ⟨rfl, hb⟩
set_option maxRecDepth 100000 in
set_option maxHeartbeats 1000000 in
theorem lone14_any (w : World) : Calls Tryd.prog 51 #[] w fun e w' => ∃ gl, e = .returned (.slice (some ⟨gl, 0, none⟩) 1 1) ∧ w.heap.size ≤ gl ∧ MsAt w' (some ⟨gl, 0, none⟩) oneM ∧ Below w.heap.size w w' := by
  go_enter Tryd.func51, Tryd.ntmps51
  go_wp2_with (go_at_call 64; go_loud (refine (place14_any _).mono ?_; rintro e w1 ⟨rfl, hb1⟩; unfold pl; have HB1 := Aside0.mk hb1; clear hb1))
  go_ret
  exact ⟨w1.heap.size, rfl, HB1.out.size, one_row (blk_new w1 _), HB1.out.trans ((below_alloc (Below.refl _ _) _).mono HB1.out.size)⟩
theorem es_hi {w : World} {g b : Nat} (h : w.heap[g]? = some (.cells #[.int .u16 24576, .int .u8 1, .string ⟨#[]⟩, .int .u8 5, .int .u8 7, .slice none 0 0, .slice none 0 0, .slice (some ⟨b, 0, none⟩) 1 1, .int .u8 0, .int .u8 0] 121 (0, 0))) (hb : ArgV w (.slice (some ⟨b, 0, none⟩) 1 1) [9]) : EsAt w (some ⟨g, 0, none⟩) hiE := by
  intro j e hj
  match j, hj with
  | 0, hj =>
    injection hj with hj
    subst hj
    exact ⟨_, _, _, _, rfl, es_cell h 0 _ rfl (fun i hi => match i, hi with | 0, _ => rfl | 1, _ => rfl | 2, _ => rfl | 3, _ => rfl | 4, _ => rfl | 5, _ => rfl | 6, _ => rfl | 7, _ => rfl | 8, _ => rfl | 9, _ => rfl | n + 10, h => absurd h (by omega)), ArgV.nil _, ArgV.nil _, hb⟩
theorem argv9 (w : World) : ArgV (w.alloc (.cells #[.int .u8 9] 5)) (.slice (some ⟨w.heap.size, 0, none⟩) 1 1) [9] :=
  ⟨_, _, rfl, arg_new (w := w) [9] (by intro x hx; simp at hx; subst hx; decide) (by simp) rfl, by simp⟩
set_option maxRecDepth 100000 in
set_option maxHeartbeats 1000000 in
theorem entry14_any (w : World) : Calls Tryd.prog 48 #[] w fun e w' => ∃ g, e = .returned (.slice (some ⟨g, 0, none⟩) 1 1) ∧ EsAt w' (some ⟨g, 0, none⟩) hiE ∧ Below w.heap.size w w' := by
  have h9 := argv9 w
  have hb1 : Below w.heap.size w (w.alloc (.cells #[.int .u8 9] 5)) := below_alloc (Below.refl _ _) _
  have hrow := blk_new (w.alloc (.cells #[.int .u8 9] 5)) (.cells #[.int .u16 24576, .int .u8 1, .string ⟨#[]⟩, .int .u8 5, .int .u8 7, .slice none 0 0, .slice none 0 0, .slice (some ⟨w.heap.size, 0, none⟩) 1 1, .int .u8 0, .int .u8 0] 121)
  have HE := Aside0.mk (es_hi hrow (h9.below (below_alloc (Below.refl _ _) _)))
  have HB := Aside0.mk (hb1.trans ((below_alloc (Below.refl _ _) (.cells #[.int .u16 24576, .int .u8 1, .string ⟨#[]⟩, .int .u8 5, .int .u8 7, .slice none 0 0, .slice none 0 0, .slice (some ⟨w.heap.size, 0, none⟩) 1 1, .int .u8 0, .int .u8 0] 121)).mono hb1.size))
  clear h9 hb1 hrow
  go_enter Tryd.func48, Tryd.ntmps48
  go_wp2
  go_ret
  exact ⟨_, rfl, by simpa using HE.out, HB.out⟩
theorem info_frame : (Tryd.prog.info? 104).map (·.size) = some 11 := by kernel_rfl
set_option maxRecDepth 100000 in
set_option maxHeartbeats 1000000 in
theorem frame14_any (id b : Int) (w : World) : Calls Tryd.prog 57 #[.int .u16 id, .int .u8 b] w fun e w' => e = .returned (.agg (fcells id 1 b 0 0 0 0 0 0 0)) ∧ Below w.heap.size w w' := by
  have hn := blk_new w (.cells (fcells id 1 b 0 0 0 0 0 0 0) 104)
  have hb : Below w.heap.size w (w.alloc (.cells (fcells id 1 b 0 0 0 0 0 0 0) 104)) := below_alloc (Below.refl _ _) _
  go_enter Tryd.func57, Tryd.ntmps57
  go_wp2
  refine bodyPost_ret (v := .agg (fcells id 1 b 0 0 0 0 0 0 0)) (results_single rfl (.cell w.heap.size 104 (fcells id 1 b 0 0 0 0 0 0 0) (0, 0) _ rfl hn Tryd.underlying104 rfl info_frame .nil)) rfl ⟨rfl, hb⟩
set_option maxRecDepth 100000 in
set_option maxHeartbeats 1000000 in
/-- One Result: it is this one. -/
theorem is14_any (A : Option Addr) (c : Nat) (p code : Int) (w : World) (h : kTold.C w A 1 [[.int .i64 p, .int .u32 code]]) : Calls Tryd.prog 55 #[.slice A 1 c, .int .i64 p, .int .u32 code] w fun e w' => e = .returned (.bool true) ∧ w = w' := by
  obtain ⟨ad, hA, hc⟩ := h.2.2 (by omega)
  subst hA
  obtain ⟨cs, hcl, ⟨rfl, -, -⟩, hcell⟩ := hc 0 _ rfl
  have y0 := hcell 0 _ rfl
  have y1 := hcell 1 _ rfl
  rw [Nat.zero_mul, Nat.zero_add, show ad.add 0 = ad from rfl] at y0
  rw [Nat.zero_mul, show 0 + 1 = 0 + 1 from rfl, addr_next, show ad.add 0 = ad from rfl] at y1
  clear h hc hcl hcell
  go_enter Tryd.func55, Tryd.ntmps55
  go_wp2
  go_ret
  exact ⟨rfl, rfl⟩
end Go.Proofs.YtokebpeplopjhaaDoor.Mp
namespace Go.Proofs.YtokebpeplopjhaaDoor.Mp
open Go.RowKit Go.Shelf Go.Proofs.YtokebpeplopjhaaDoor.Rng Go.Proofs.YtokebpeplopjhaaDoorW.PrintWords Go.Proofs.YtokebpeplopjhaaDoorW.PrintMore Go.Proofs.YtokebpeplopjhaaDoorW.PrintLast

structure K1 (B : Nat) (w : World) (g gd bi bs p : Nat) (b : Int) (c : Cm) (hd : Bool) (a : Int) (lt : Bool) : Prop where
  ex : ∃ d os vm, CnAt w g (.pointer (some ⟨gd, 0, none⟩)) os vm true ∧ DictB B w gd bi bs d ∧ OneH d b ∧ OneC os p (coI c hd a lt)
  ne : gd ≠ g ∧ bi ≠ g ∧ bs ≠ g
  ge : B ≤ g
theorem K1.below {B : Nat} {w w' : World} {g gd bi bs p : Nat} {b : Int} {c : Cm} {hd : Bool} {a : Int} {lt : Bool} (h : K1 B w g gd bi bs p b c hd a lt) (hb : Below w.heap.size w w') : K1 B w' g gd bi bs p b c hd a lt := by
  obtain ⟨⟨d, os, vm, h1, h2, h3, h4⟩, h5, h6⟩ := h
  exact ⟨⟨d, os, vm, h1.below hb, h2.below hb, h3, h4⟩, h5, h6⟩
theorem K1.bel {B : Nat} {w w0 w' : World} {g gd bi bs p : Nat} {b : Int} {c : Cm} {hd : Bool} {a : Int} {lt : Bool} (h : K1 B w g gd bi bs p b c hd a lt) (hf : Fr (fun k => k = g ∨ k = gd ∨ k = bi) w0 w') (hB : B ≤ w0.heap.size) : Below B w0 w' := by
  obtain ⟨⟨d, os, vm, h1, h2, h3, h4⟩, h5, h6⟩ := h
  have hge := h2.ge
  exact fr_belowB hf hB (fun k hk e => by rcases e with e | e | e <;> omega)
theorem K1.hear {B : Nat} {w : World} {g gd bi bs p : Nat} {b : Int} {c : Cm} {hd : Bool} {a : Int} {lt : Bool} {d : DD} {os : Nat → Co} {vm : Nat → Value} (h1 : CnAt w g (.pointer (some ⟨gd, 0, none⟩)) os vm true) (h2 : DictB B w gd bi bs d) (h3 : OneH d b) (h4 : OneC os p (coI c hd a lt)) (h5 : gd ≠ g ∧ bi ≠ g ∧ bs ≠ g) (h6 : B ≤ g) (ht : TblB B w) (hc : c.on = true ∧ 254 ≤ c.kind) :
    HearAt B w g gd bi bs d os vm p c.id 1 := by
  have hm : (os p).maps = oneM := by rw [h4.at0]; rfl
  refine ⟨h1, h2, h5, h3.good, ht, h6, h4.lt, by rw [h4.at0]; exact hc.1, fun k hk hne => (h4.off k hk hne).1, by rw [h4.at0]; rfl, by rw [h4.at0]; exact hc.2, ?_, ?_, ?_, ?_, ?_⟩
  · rw [hm]; decide
  · rw [hm]; decide
  · rw [hm]; intro m hm'; have := (oneM_ok m hm'); simp [oneM] at hm'; subst hm'; decide
  · rw [hm]; exact oneM_ok
  · rw [hm]; decide
def HearK (B : Nat) (w : World) (g gd bi bs p : Nat) (b code : Int) (c : Cm) (now : Int) (e : Ending) (w' : World) : Prop :=
  (∃ A cc, e = .returned (.slice A 1 cc) ∧ kTold.C w' A 1 [[.int .i64 p, .int .u32 code]]) ∧ K1 B w' g gd bi bs p b c true now false ∧ Fr (fun k => k = g ∨ k = gd ∨ k = bi) w w'
theorem rt_one {id y : Int} (h : id ≤ 2047) : Frm.Rt ⟨id, (1 : Nat), [y, 0, 0, 0, 0, 0, 0, 0], false⟩ := ⟨h, (by omega : (0 : Int) ≤ ((1 : Nat) : Int)), (by omega : ((1 : Nat) : Int) ≤ 8), fun i hi => by
  match i, hi with
  | 0, _ => exact .inr ⟨(by omega : ((0 : Nat) : Int) < ((1 : Nat) : Int)), rfl⟩
  | 1, _ => exact .inl rfl
  | 2, _ => exact .inl rfl
  | 3, _ => exact .inl rfl
  | 4, _ => exact .inl rfl
  | 5, _ => exact .inl rfl
  | 6, _ => exact .inl rfl
  | 7, _ => exact .inl rfl⟩
theorem byt8 {y : Int} (hy : 0 ≤ y ∧ y < 256) : Byt [y, 0, 0, 0, 0, 0, 0, 0] := by
  intro x hx
  simp at hx
  omega
/-- A byte that may be. -/
theorem hear_yes {B : Nat} {w : World} {g gd bi bs p : Nat} {b : Int} {c : Cm} {hd : Bool} {a : Int} {lt : Bool} (h : K1 B w g gd bi bs p b c hd a lt) (ht : TblB B w) (hc : c.on = true ∧ 254 ≤ c.kind) (hid : c.id ≤ 2047) (y now : Int) (hy : 0 ≤ y ∧ y ≤ 9) (htm : timeC now) (opn : Bool) :
    Calls Tryd.prog 56 #[.pointer (some ⟨g, 0, none⟩), .agg (fcells c.id 1 y 0 0 0 0 0 0 0), .int .i64 now, .bool opn] w (HearK B w g gd bi bs p y 0 c now) := by
  obtain ⟨⟨d, os, vm, h1, h2, h3, h4⟩, h5, h6⟩ := h
  have hm : (os p).maps = oneM := by rw [h4.at0]; rfl
  have hu := h3.hear hy
  refine (cHear_one B g gd bi bs p d os vm now c.id 1 y 0 0 0 0 0 0 0 opn w (K1.hear h1 h2 h3 h4 h5 h6 ht hc) (by decide) (byt8 ⟨hy.1, by omega⟩) (rt_one hid) htm 0 _ (by rw [hm]; exact hu.1) (by rw [hm])).mono ?_
  rintro e w' ⟨q1, q2, q3, q4⟩
  refine ⟨q1, ⟨⟨_, _, vm, q2, q3, hu.2, ?_⟩, h5, h6⟩, q4⟩
  have h7 := h4.upd (hearO (os p) now)
  rw [h4.at0] at h7
  rw [h4.at0]
  exact h7
/-- A byte that is too great. -/
theorem hear_no {B : Nat} {w : World} {g gd bi bs p : Nat} {b : Int} {c : Cm} {hd : Bool} {a : Int} {lt : Bool} (h : K1 B w g gd bi bs p b c hd a lt) (ht : TblB B w) (hc : c.on = true ∧ 254 ≤ c.kind) (hid : c.id ≤ 2047) (y now : Int) (hy : 9 < y ∧ y < 256) (htm : timeC now) (opn : Bool) :
    Calls Tryd.prog 56 #[.pointer (some ⟨g, 0, none⟩), .agg (fcells c.id 1 y 0 0 0 0 0 0 0), .int .i64 now, .bool opn] w (HearK B w g gd bi bs p b 0x06090031 c now) := by
  obtain ⟨⟨d, os, vm, h1, h2, h3, h4⟩, h5, h6⟩ := h
  have hm : (os p).maps = oneM := by rw [h4.at0]; rfl
  have hu := h3.deaf hy
  refine (cHear_one B g gd bi bs p d os vm now c.id 1 y 0 0 0 0 0 0 0 opn w (K1.hear h1 h2 h3 h4 h5 h6 ht hc) (by decide) (byt8 ⟨by omega, hy.2⟩) (rt_one hid) htm 0x06090031 d (by rw [hm]; exact hu.1) (by rw [hm]; exact hu.2)).mono ?_
  rintro e w' ⟨q1, q2, q3, q4⟩
  refine ⟨q1, ⟨⟨_, _, vm, q2, q3, h3, ?_⟩, h5, h6⟩, q4⟩
  have h7 := h4.upd (hearO (os p) now)
  rw [h4.at0] at h7
  rw [h4.at0]
  exact h7
theorem late_one {os : Nat → Co} {p : Nat} {c : Cm} {hd : Bool} {a : Int} {lt : Bool} (h : OneC os p (coI c hd a lt)) (hc : c.on = true) (n : Int) : OneC (lateN n os 8) p (coI c hd a (lt || lateC (coI c hd a lt) n)) := by
  refine ⟨h.lt, ?_, fun k hk hne => ?_⟩
  · unfold lateN
    rw [if_pos ⟨h.lt, by rw [h.at0]; exact hc⟩, h.at0]
    rfl
  · unfold lateN
    rw [if_neg (fun hh => by rw [(h.off k hk hne).1] at hh; exact absurd hh.2 (by simp))]
    exact h.off k hk hne
def TickKY (B : Nat) (w : World) (g gd bi bs p : Nat) (b : Int) (c : Cm) (hd : Bool) (a : Int) (e : Ending) (w' : World) : Prop :=
  (∃ A cc, e = .returned (.slice A 1 cc) ∧ kN.C w' A 1 [(p : Int)]) ∧ K1 B w' g gd bi bs p b c hd a true ∧ Fr (fun k => k = g ∨ k = gd ∨ k = bi) w w'
def TickKN (B : Nat) (w : World) (g gd bi bs p : Nat) (b : Int) (c : Cm) (hd : Bool) (a : Int) (lt : Bool) (e : Ending) (w' : World) : Prop :=
  (∃ A cc, e = .returned (.slice A 0 cc)) ∧ K1 B w' g gd bi bs p b c hd a lt ∧ Fr (fun k => k = g ∨ k = gd ∨ k = bi) w w'
theorem ctick_yes {B : Nat} {w : World} {g gd bi bs p : Nat} {b : Int} {c : Cm} {hd : Bool} {a : Int} {lt : Bool} (h : K1 B w g gd bi bs p b c hd a lt) (hc : c.on = true) (n : Int) (htm : timeC n) (hl : lateC (coI c hd a lt) n = true) :
    Calls Tryd.prog 54 #[.pointer (some ⟨g, 0, none⟩), .int .i64 n] w (TickKY B w g gd bi bs p b c hd a) := by
  obtain ⟨⟨d, os, vm, h1, h2, h3, h4⟩, h5, h6⟩ := h
  have hr : toldL (lateR os n) 8 = rowsT [((p : Int), 0)] := told_one (c := 0) (by unfold lateR; rw [h4.at0]; exact if_pos ⟨hc, hl⟩) h4.lt (fun i hi hne => if_neg (fun hh => by rw [(h4.off i hi hne).1] at hh; exact absurd hh.1 (by simp)))
  refine (cTick_any g _ os vm n _ w h1 htm hr).mono ?_
  rintro e w' ⟨A, cc, rfl, q1, q2, q3, q4⟩
  have h7 := late_one h4 hc n
  rw [hl, Bool.or_true] at h7
  exact ⟨⟨A, cc, rfl, q1⟩, ⟨⟨d, _, vm, q2, h2.kp q3 q4 h5.1 h5.2.1 h5.2.2, h3, h7⟩, h5, h6⟩, q3.mono (fun k e => .inl e)⟩
theorem ctick_no {B : Nat} {w : World} {g gd bi bs p : Nat} {b : Int} {c : Cm} {hd : Bool} {a : Int} {lt : Bool} (h : K1 B w g gd bi bs p b c hd a lt) (hc : c.on = true) (n : Int) (htm : timeC n) (hl : lateC (coI c hd a lt) n = false) :
    Calls Tryd.prog 54 #[.pointer (some ⟨g, 0, none⟩), .int .i64 n] w (TickKN B w g gd bi bs p b c hd a lt) := by
  obtain ⟨⟨d, os, vm, h1, h2, h3, h4⟩, h5, h6⟩ := h
  have hr : toldL (lateR os n) 8 = rowsT [] := told_none (fun i hi => if_neg (fun hh => by
    by_cases e : i = p
    · subst e
      rw [h4.at0, hl] at hh
      exact absurd hh.2 (by simp)
    · rw [(h4.off i hi e).1] at hh
      exact absurd hh.1 (by simp)))
  refine (cTick_any g _ os vm n _ w h1 htm hr).mono ?_
  rintro e w' ⟨A, cc, rfl, q1, q2, q3, q4⟩
  have h7 := late_one h4 hc n
  rw [hl, Bool.or_false] at h7
  exact ⟨⟨A, cc, rfl⟩, ⟨⟨d, _, vm, q2, h2.kp q3 q4 h5.1 h5.2.1 h5.2.2, h3, h7⟩, h5, h6⟩, q3.mono (fun k e => .inl e)⟩
theorem due_one {os : Nat → Co} {p : Nat} {x : Co} (h : OneC os p x) : ∀ n, n ≤ 8 → dueLC os n = if p < n then dueO x else []
  | 0, _ => rfl
  | n + 1, h8 => by
    show dueLC os n ++ dueO (os n) = _
    rw [due_one h n (by omega)]
    by_cases hp : n = p
    · subst hp
      rw [if_neg (by omega), if_pos (by omega), h.at0, List.nil_append]
    · rw [dueO_off (h.off n (by omega) hp).1, List.append_nil]
      by_cases hlt : p < n
      · rw [if_pos hlt, if_pos (by omega)]
      · rw [if_neg hlt, if_neg (by omega)]
def DueK (B : Nat) (w : World) (g gd bi bs p : Nat) (b : Int) (c : Cm) (a : Int) (e : Ending) (w' : World) : Prop := e = .returned (.tuple #[.int .i64 (a + c.ev), .bool true]) ∧ K1 B w' g gd bi bs p b c true a false ∧ Below w.heap.size w w'
theorem due_k {B : Nat} {w : World} {g gd bi bs p : Nat} {b : Int} {c : Cm} {a : Int} (h : K1 B w g gd bi bs p b c true a false) (hc : c.on = true ∧ 0 < c.ev) (ha : 0 ≤ a ∧ a ≤ 1000000) (he : c.ev ≤ 1000000) :
    Calls Tryd.prog 58 #[.pointer (some ⟨g, 0, none⟩)] w (DueK B w g gd bi bs p b c a) := by
  obtain ⟨⟨d, os, vm, h1, h2, h3, h4⟩, h5, h6⟩ := h
  have hd : dueLC os 8 = [a + c.ev] := by
    rw [due_one h4 8 (Nat.le_refl _), if_pos h4.lt]
    unfold dueO
    rw [if_pos (by show (c.on && (decide (0 < c.ev) && (true && !false))) = true; simp [hc])]
    show [wrap64 (a + c.ev)] = _
    rw [show wrap64 (a + c.ev) = a + c.ev by unfold wrap64; omega]
  have hdr : dueR (dueLC os 8) = (a + c.ev, true) := by rw [hd]; rfl
  refine (cDue_any g _ os vm w h1).mono ?_
  rintro e w' ⟨rfl, q1, q2⟩
  rw [hdr]
  exact ⟨rfl, ⟨⟨d, os, vm, q1, h2.below q2, h3, h4⟩, h5, h6⟩, q2⟩
end Go.Proofs.YtokebpeplopjhaaDoor.Mp
namespace Go.Proofs.YtokebpeplopjhaaDoor.Mp
open Go.RowKit Go.Proofs.YtokebpeplopjhaaDoor.Num

def cI (kind inh ev : Int) : Cm := ⟨true, 385, kind, inh, ev, 0⟩
/-- What stays: nothing was sent, or the last frame was. -/
structure Inv (now last told : Int) (s : Bool) (bts : List Int) (a : Int) : Prop where
  now0 : 0 ≤ now
  st : (s = false ∧ now = 0 ∧ last = -1 ∧ bts = [] ∧ a = 0) ∨ (s = true ∧ last = a ∧ bts = [told] ∧ 0 ≤ a ∧ a < now)
theorem Inv.bnd {now last told : Int} {s : Bool} {bts : List Int} {a : Int} (h : Inv now last told s bts a) : 0 ≤ a ∧ a ≤ now ∧ -1 ≤ last ∧ last ≤ now ∧ last ≤ a := by
  have h0 := h.now0
  rcases h.st with ⟨_, h2, h3, _, h5⟩ | ⟨_, h2, _, h4, h5⟩ <;> omega
theorem inv_yes {kind inh ev now last told v : Int} {s : Bool} {bts : List Int} {a : Int} (h : Inv now last told s bts a) (hs : sndC (cI kind inh ev) s bts a v now = true) :
    (last < 0 ∨ inh ≤ now - last) ∧ Inv (now + 1) now v true [v] now := by
  have h0 := h.now0
  refine ⟨?_, by omega, .inr ⟨rfl, rfl, rfl, h0, by omega⟩⟩
  rcases h.st with ⟨_, h2, h3, _, h5⟩ | ⟨h1, h2, _, h4, h5⟩
  · exact .inl (by omega)
  · right
    unfold sndC at hs
    split at hs
    · cases hs
    · rename_i hc
      have : ¬ (now - a < inh) := fun hh => hc (.inr ⟨h1, hh⟩)
      omega
theorem inv_no {kind inh ev now last told v : Int} {s : Bool} {bts : List Int} {a : Int} (h : Inv now last told s bts a) (hs : sndC (cI kind inh ev) s bts a v now = false) :
    0 ≤ last ∧ last < now ∧ (told = v ∨ now - last < inh) ∧ (ev ≤ 0 ∨ now - last < inh ∨ now - last < ev) ∧ Inv (now + 1) last told s bts a := by
  have h0 := h.now0
  unfold sndC at hs
  rcases h.st with ⟨h1, h2, h3, h4, h5⟩ | ⟨h1, h2, h3, h4, h5⟩
  · exfalso
    subst h1
    rw [if_neg (by rintro (hh | ⟨hh, _⟩); omega; cases hh)] at hs
    simp at hs
  · refine ⟨by omega, by omega, ?_, ?_, by omega, .inr ⟨h1, h2, h3, h4, by omega⟩⟩
    · split at hs
      · rename_i hc
        rcases hc with hc | ⟨_, hc⟩
        · omega
        · right
          have : now - a < inh := hc
          omega
      · left
        rw [h1, h3] at hs
        simp at hs
        exact hs.1.symm
    · split at hs
      · rename_i hc
        rcases hc with hc | ⟨_, hc⟩
        · omega
        · right; left
          have : now - a < inh := hc
          omega
      · rw [h1, h3] at hs
        simp at hs
        have h6 : 0 < ev → now - a < ev := fun hh => by
          have := hs.2 hh
          exact this
        omega
end Go.Proofs.YtokebpeplopjhaaDoor.Mp
